/-
  Part 7 of the texts that the proofs of this seat share: rules of a walk, contracts of functions, plain facts. Each piece says below what it proves.
  No conditions beyond those that each lemma states.
-/
import Derived.Test.YtjpnaofoeeegeaaB6

/-
  Stride tables (layer 8), plain: a range of addresses cut into prefixes; the table of runs.
  No conditions beyond those that each lemma states.
-/
namespace Go.Proofs.Ytjpnaofoeeegeaa
open Go.RowKit

/-- The prefix that begins at x and has 2^f addresses. -/
def pfB (f x : Nat) : Pf := ⟨x, ((32 - f : Nat) : Int)⟩
/-- The longest prefixes within a block that lie in a range. -/
def pcs (lo hi : Nat) : Nat → Nat → List Pf
  | 0, x => if x < lo ∨ hi < x then [] else [pfB 0 x]
  | f + 1, x => if x + (2 ^ (f + 1) - 1) < lo ∨ hi < x then [] else if lo ≤ x ∧ x + (2 ^ (f + 1) - 1) ≤ hi then [pfB (f + 1) x] else pcs lo hi f x ++ pcs lo hi f (x + 2 ^ f)
theorem pfB_valid {f x : Nat} (hf : f ≤ 32) (hx : x % 2 ^ f = 0) : (pfB f x).valid = true ∧ (pfB f x).last = x + (2 ^ f - 1) := by
  have e : 32 - (32 - f) = f := by omega
  have hv : (pfB f x).valid = true := by
    refine Pf.valid_iff.2 ⟨?_, ?_, ?_⟩
    · unfold pfB; simp
    · unfold pfB; dsimp only; omega
    · unfold pfB
      dsimp only
      rw [Int.toNat_natCast, top, e]
      exact Nat.div_mul_cancel (Nat.dvd_of_mod_eq_zero hx)
  refine ⟨hv, ?_⟩
  rw [Pf.last, if_pos hv]
  unfold pfB
  dsimp only
  rw [Int.toNat_natCast, e]
theorem al_half {f x : Nat} (hx : x % 2 ^ (f + 1) = 0) : x % 2 ^ f = 0 ∧ (x + 2 ^ f) % 2 ^ f = 0 := by
  have h1 : x % 2 ^ f = 0 := by
    rw [Nat.pow_succ] at hx
    rw [← Nat.mod_mul_right_mod x (2 ^ f) 2, hx]; exact Nat.zero_mod _
  exact ⟨h1, by rw [Nat.add_mod_right]; exact h1⟩
section
variable {lo hi : Nat}
theorem pcs_in : ∀ f x, f ≤ 32 → x % 2 ^ f = 0 → ∀ p ∈ pcs lo hi f x, p.valid = true ∧ lo ≤ p.a ∧ x ≤ p.a ∧ p.a ≤ p.last ∧ p.last ≤ hi ∧ p.last < x + 2 ^ f ∧ 0 ≤ p.n ∧ p.n ≤ 32
  | 0, x, hf, hx, p, hp => by
    rw [pcs] at hp
    split at hp
    · cases hp
    · obtain ⟨h1, h2⟩ := pfB_valid hf hx
      rw [List.mem_singleton.1 hp, h2]
      obtain ⟨v1, v2, _⟩ := Pf.valid_iff.1 h1
      have ea : (pfB 0 x).a = x := rfl
      rw [ea]
      exact ⟨h1, by omega, by omega, by omega, by omega, by omega, v1, v2⟩
  | f + 1, x, hf, hx, p, hp => by
    have h0 : 0 < 2 ^ f := Nat.two_pow_pos f
    rw [pcs] at hp
    split at hp
    · cases hp
    · split at hp
      · obtain ⟨h1, h2⟩ := pfB_valid hf hx
        rw [List.mem_singleton.1 hp, h2]
        obtain ⟨v1, v2, _⟩ := Pf.valid_iff.1 h1
        have ea : (pfB (f + 1) x).a = x := rfl
        have h3 : 0 < 2 ^ (f + 1) := Nat.two_pow_pos _
        rw [ea]
        exact ⟨h1, by omega, by omega, by omega, by omega, by omega, v1, v2⟩
      · obtain ⟨a1, a2⟩ := al_half hx
        rw [Nat.pow_succ]
        rcases List.mem_append.1 hp with hp | hp
        · obtain ⟨q1, q2, q3, q4, q5, q6, q7⟩ := pcs_in f x (by omega) a1 p hp
          exact ⟨q1, q2, q3, q4, q5, by omega, q7⟩
        · obtain ⟨q1, q2, q3, q4, q5, q6, q7⟩ := pcs_in f (x + 2 ^ f) (by omega) a2 p hp
          exact ⟨q1, q2, by omega, q4, q5, by omega, q7⟩
theorem pcs_srt : ∀ f x, f ≤ 32 → x % 2 ^ f = 0 → (pcs lo hi f x).Pairwise (fun p q => p.last < q.a)
  | 0, x, _, _ => by
    rw [pcs]; split
    · exact List.Pairwise.nil
    · exact List.pairwise_singleton ..
  | f + 1, x, hf, hx => by
    rw [pcs]; split
    · exact List.Pairwise.nil
    · split
      · exact List.pairwise_singleton ..
      · obtain ⟨a1, a2⟩ := al_half hx
        rw [List.pairwise_append]
        refine ⟨pcs_srt f x (by omega) a1, pcs_srt f _ (by omega) a2, fun p hp q hq => ?_⟩
        have h1 := (pcs_in f x (by omega) a1 p hp).2.2.2.2.2.1
        have h2 := (pcs_in f _ (by omega) a2 q hq).2.2.1
        omega
theorem pcs_cov : ∀ f x, f ≤ 32 → x % 2 ^ f = 0 → ∀ a, x ≤ a → a < x + 2 ^ f → lo ≤ a → a ≤ hi → ∃ p ∈ pcs lo hi f x, p.has a = true
  | 0, x, hf, hx, a, h1, h2, h3, h4 => by
    obtain ⟨q1, q2⟩ := pfB_valid hf hx
    rw [pcs, if_neg (by omega)]
    exact ⟨_, List.mem_singleton.2 rfl, (has_iff q1).2 ⟨h1, by rw [q2]; omega⟩⟩
  | f + 1, x, hf, hx, a, h1, h2, h3, h4 => by
    have h0 : 0 < 2 ^ (f + 1) := Nat.two_pow_pos _
    rw [pcs, if_neg (by omega)]
    split
    · obtain ⟨q1, q2⟩ := pfB_valid hf hx
      exact ⟨_, List.mem_singleton.2 rfl, (has_iff q1).2 ⟨h1, by rw [q2]; omega⟩⟩
    · obtain ⟨a1, a2⟩ := al_half hx
      rw [Nat.pow_succ] at h2
      rcases Nat.lt_or_ge a (x + 2 ^ f) with h5 | h5
      · obtain ⟨p, hp, hh⟩ := pcs_cov f x (by omega) a1 a h1 h5 h3 h4
        exact ⟨p, List.mem_append.2 (.inl hp), hh⟩
      · obtain ⟨p, hp, hh⟩ := pcs_cov f (x + 2 ^ f) (by omega) a2 a h5 (by omega) h3 h4
        exact ⟨p, List.mem_append.2 (.inr hp), hh⟩
theorem pcs_len : ∀ f x, (pcs lo hi f x).length ≤ min (x + 2 ^ f) (hi + 1) - max x lo
  | 0, x => by
    rw [pcs]; split
    · exact Nat.zero_le _
    · rw [List.length_singleton, Nat.pow_zero]; omega
  | f + 1, x => by
    have h0 : 0 < 2 ^ f := Nat.two_pow_pos f
    have e : 2 ^ (f + 1) = 2 ^ f + 2 ^ f := by rw [Nat.pow_succ]; omega
    rw [pcs, e]; split
    · exact Nat.zero_le _
    · split
      · rw [List.length_singleton]; omega
      · have h1 := pcs_len f x
        have h2 := pcs_len f (x + 2 ^ f)
        rw [List.length_append]
        generalize 2 ^ f = g at *
        omega
end
/-! ### The table of runs -/
/-- The entries of run i. -/
def runE (R : List Rn) (i : Nat) : List En := match R[i]? with
  | some r => if 0 ≤ r.2 then (pcs r.1 (nxtR R i 4294967296 - 1) 32 0).map fun p => ⟨p, r.2⟩ else []
  | none => []
def tabE (R : List Rn) : Nat → List En
  | 0 => []
  | i + 1 => tabE R i ++ runE R i
section
variable {g : Nat → Int} {R : List Rn} (hC : Canon g R 4294967296)
include hC
theorem runE_in {i : Nat} {e : En} (he : e ∈ runE R i) : ∃ r, R[i]? = some r ∧ 0 ≤ r.2 ∧ e.v = r.2 ∧ e.p.valid = true ∧ r.1 ≤ e.p.a ∧ e.p.a ≤ e.p.last ∧ e.p.last < nxtR R i 4294967296 ∧ 0 ≤ e.p.n ∧ e.p.n ≤ 32 := by
  unfold runE at he
  split at he
  · rename_i r hr
    split at he
    · rename_i h0
      obtain ⟨p, hp, rfl⟩ := List.mem_map.1 he
      obtain ⟨q1, q2, q3, q4, q5, q6, q7, q8⟩ := pcs_in 32 0 (Nat.le_refl _) rfl p hp
      have h1 := hC.nxt hr
      exact ⟨r, hr, h0, rfl, q1, q2, q4, by dsimp only; omega, q7, q8⟩
    · cases he
  · cases he
omit hC in
theorem tabE_in : ∀ k {e : En}, e ∈ tabE R k → ∃ i, i < k ∧ e ∈ runE R i
  | 0, _, he => by cases he
  | k + 1, e, he => by
    rcases List.mem_append.1 he with he | he
    · obtain ⟨i, h1, h2⟩ := tabE_in k he
      exact ⟨i, by omega, h2⟩
    · exact ⟨k, Nat.lt_succ_self k, he⟩
theorem run_lt {i j : Nat} (hij : i < j) {r : Rn} (hr : R[j]? = some r) : nxtR R i 4294967296 ≤ r.1 := by
  obtain ⟨s, hs⟩ : ∃ s, R[i + 1]? = some s := ⟨_, List.getElem?_eq_getElem (by have := (List.getElem?_eq_some_iff.1 hr).1; omega)⟩
  unfold nxtR
  rw [hs]
  dsimp only
  rcases Nat.lt_or_ge (i + 1) j with h | h
  · exact Nat.le_of_lt (srt_at hC.srt hs hr h)
  · rw [show j = i + 1 by omega, hs] at hr; cases hr; exact Nat.le_refl _
theorem tabE_srt : ∀ k, (tabE R k).Pairwise (fun e e' => e.p.last < e'.p.a)
  | 0 => List.Pairwise.nil
  | k + 1 => by
    rw [tabE, List.pairwise_append]
    refine ⟨tabE_srt k, ?_, fun e he e' he' => ?_⟩
    · unfold runE
      split
      · split
        · rw [List.pairwise_map]
          exact pcs_srt 32 0 (Nat.le_refl _) rfl
        · exact List.Pairwise.nil
      · exact List.Pairwise.nil
    · obtain ⟨i, hi, he⟩ := tabE_in k he
      obtain ⟨_, _, _, _, _, _, _, h1, _⟩ := runE_in hC he
      obtain ⟨r, hr, _, _, _, h2, _⟩ := runE_in hC he'
      have := run_lt hC hi hr
      omega
theorem tabE_len : ∀ k, k ≤ R.length → (tabE R k).length ≤ match R[k]? with | some r => r.1 | none => 4294967296
  | 0, hk => by
    cases hR : R[0]? with
    | none => exact Nat.zero_le _
    | some r => exact Nat.zero_le _
  | k + 1, hk => by
    have ih := tabE_len k (by omega)
    obtain ⟨r, hr⟩ : ∃ r, R[k]? = some r := ⟨_, List.getElem?_eq_getElem (by omega)⟩
    rw [hr] at ih
    dsimp only at ih
    have hn := hC.nxt hr
    have h1 : (runE R k).length ≤ nxtR R k 4294967296 - r.1 := by
      unfold runE
      rw [hr]
      dsimp only
      split
      · rw [List.length_map]
        have := pcs_len (lo := r.1) (hi := nxtR R k 4294967296 - 1) 32 0
        omega
      · exact Nat.zero_le _
    have h2 : nxtR R k 4294967296 = match R[k + 1]? with | some r => r.1 | none => 4294967296 := rfl
    rw [← h2, tabE, List.length_append]
    omega
theorem tabE_ok {e : En} {k : Nat} (he : e ∈ tabE R k) : e.p.valid = true ∧ 0 ≤ e.v ∧ 0 ≤ e.p.n ∧ e.p.n ≤ 32 ∧ e.p.last < 4294967296 ∧ e.p.a ≤ e.p.last := by
  obtain ⟨i, _, he⟩ := tabE_in k he
  obtain ⟨r, hr, h0, hv, h1, _, h3, h2, h4, h5⟩ := runE_in hC he
  have := (hC.nxt hr).2
  exact ⟨h1, by rw [hv]; exact h0, h4, h5, by omega, h3⟩
theorem tabE_tb (k : Nat) : Tb (tabE R k) := by
  refine ⟨fun e he => ?_, (tabE_srt hC k).imp_of_mem fun {e e'} he _ h => ?_⟩
  · obtain ⟨h1, h2, _⟩ := tabE_ok hC he
    exact ⟨h1, by omega⟩
  · have := (tabE_ok hC he).2.2.2.2.2
    exact .inl (by omega)
omit hC in
theorem tabE_pre (R : List Rn) {i : Nat} : ∀ {k}, i < k → ∀ e ∈ runE R i, e ∈ tabE R k
  | 0, h, _, _ => absurd h (Nat.not_lt_zero i)
  | k + 1, h, e, he => by
    rcases Nat.lt_or_ge i k with h1 | h1
    · exact List.mem_append.2 (.inl (tabE_pre R h1 e he))
    · rw [show k = i by omega]; exact List.mem_append.2 (.inr he)
end
theorem best_none {a : Nat} {L : List En} : Tb L → bestL a L = none → ∀ e ∈ L, e.p.has a = false := by
  refine en_ind (P := fun L => Tb L → bestL a L = none → ∀ e ∈ L, e.p.has a = false) (fun _ _ _ h => nomatch h) (fun L x ih hT h e he => ?_) L
  rw [best_snoc, bestS] at h
  split at h
  · cases h
  · rename_i hb
    rcases List.mem_append.1 he with he | he
    · exact ih (hT.sub (List.sublist_append_left ..)) h e he
    · rw [List.mem_singleton.1 he]
      cases hh : x.p.has a with
      | false => rfl
      | true =>
        exfalso
        refine hb ?_
        rw [bestB, hh, Bool.true_and]
        rw [h]
        rfl
/-- Lookups in a table of disjoint prefixes. -/
theorem lk_dis {t : List En} (hT : Tb t) (hd : t.Pairwise (fun e e' => e.p.last < e'.p.a)) (a : Nat) : (∀ e ∈ t, e.p.has a = true → lk t a = e.v) ∧ ((∀ e ∈ t, e.p.has a = false) → lk t a = -1) := by
  rw [lk_eq a hT]
  cases hb : bestL a t with
  | none => exact ⟨(fun e he hh => by rw [best_none hT hb e he] at hh; cases hh), fun _ => rfl⟩
  | some e0 =>
    obtain ⟨h1, h2⟩ := best_in hb
    refine ⟨fun e he hh => ?_, fun h => by rw [h e0 h1] at h2; cases h2⟩
    obtain ⟨q1, q2⟩ := (has_iff (hT.ok e he).1).1 hh
    obtain ⟨q3, q4⟩ := (has_iff (hT.ok e0 h1).1).1 h2
    obtain ⟨i, hi, rfl⟩ := List.mem_iff_getElem.1 he
    obtain ⟨j, hj, rfl⟩ := List.mem_iff_getElem.1 h1
    rcases Nat.lt_trichotomy i j with h | h | h
    · have := List.pairwise_iff_getElem.1 hd i j hi hj h
      omega
    · subst h; rfl
    · have := List.pairwise_iff_getElem.1 hd j i hj hi h
      omega
/-- The table of the runs of g has the lookups of g. -/
theorem tabE_lk {g : Nat → Int} {R : List Rn} (hC : Canon g R 4294967296) (hg : ∀ a, a < 4294967296 → -1 ≤ g a) {a : Nat} (ha : a < 4294967296) : lk (tabE R R.length) a = g a := by
  obtain ⟨r, hr, hv, h1, h2⟩ := hC.find ha
  have hil := (List.getElem?_eq_some_iff.1 hr).1
  have hn := hC.nxt hr
  obtain ⟨d1, d2⟩ := lk_dis (tabE_tb hC R.length) (tabE_srt hC R.length) a
  by_cases h0 : 0 ≤ r.2
  · obtain ⟨p, hp, hh⟩ := pcs_cov (lo := r.1) (hi := nxtR R (cntR R a - 1) 4294967296 - 1) 32 0 (Nat.le_refl _) rfl a (Nat.zero_le _) (by omega) h1 (by omega)
    have he : (⟨p, r.2⟩ : En) ∈ runE R (cntR R a - 1) := by
      unfold runE
      rw [hr]
      dsimp only
      rw [if_pos h0]
      exact List.mem_map.2 ⟨p, hp, rfl⟩
    rw [d1 _ (tabE_pre R hil _ he) hh]; exact hv
  · have hm : g a = -1 := by have := hg a ha; omega
    rw [hm]
    refine d2 fun e he => ?_
    cases hh : e.p.has a with
    | false => rfl
    | true =>
      exfalso
      obtain ⟨j, hj, he⟩ := tabE_in _ he
      obtain ⟨s, hs, q0, _, qv, q1, _, q2, _⟩ := runE_in hC he
      obtain ⟨q3, q4⟩ := (has_iff qv).1 hh
      have hgs := hC.val j s a hs (by omega) (by omega)
      omega
end Go.Proofs.Ytjpnaofoeeegeaa

/-
  Stride tables (layer 8): pieces, Table.
  Conditions: the lists are not too long for a machine; the words are words of 64 bits.
-/
namespace Go.Proofs.Ytjpnaofoeeegeaa
open Go.RowKit

theorem halvesB_v (f x : Nat) (w : World) (hf : f + 1 ≤ 32) (hx : x % 2 ^ (f + 1) = 0) (hl : x < 4294967296) : Calls Try.prog 66 #[(pfB (f + 1) x).val] w (Ret (.tuple #[(pfB f x).val, (pfB f (x + 2 ^ f)).val, .bool true]) w) := by
  obtain ⟨k, hk⟩ : ∃ k, k = 32 - (f + 1) := ⟨_, rfl⟩
  have hk32 : k < 32 := by omega
  have ek : 32 - k = f + 1 := by omega
  have hval := (pfB_valid hf hx).1
  have htop : top x k = x := by
    have := (Pf.valid_iff.1 hval).2.2
    unfold pfB at this
    dsimp only at this
    rw [Int.toNat_natCast, ← hk] at this; exact this
  have e1 : pfB (f + 1) x = ⟨x, (k : Int)⟩ := by unfold pfB; rw [hk]
  have e2 : (⟨kidA x k 0, ((k + 1 : Nat) : Int)⟩ : Pf) = pfB f x := by unfold pfB kidA; rw [show k + 1 = 32 - f by omega]; simp
  have e3 : (⟨kidA x k 1, ((k + 1 : Nat) : Int)⟩ : Pf) = pfB f (x + 2 ^ f) := by unfold pfB kidA; rw [show k + 1 = 32 - f by omega, show 31 - k = f by omega]; simp
  rw [e1] at hval ⊢
  have hof0 : Pf.of x ((k : Int) + 1) = ⟨kidA x k 0, ((k + 1 : Nat) : Int)⟩ := by
    have h3 := (kid_top hk32 htop (bit := 0) (by omega)).1
    have h4 : kidA x k 0 = x := by unfold kidA; omega
    rw [h4] at h3
    rw [Pf.of, h4, show ((k : Int) + 1) = ((k + 1 : Nat) : Int) by omega, lowN_nat _ _ (by omega), h3]
  have hlast : (⟨x, (k : Int)⟩ : Pf).last = x + (2 ^ (32 - k) - 1) := by rw [Pf.last, if_pos hval]; simp
  have hof1 : Pf.of (⟨x, (k : Int)⟩ : Pf).last ((k : Int) + 1) = ⟨kidA x k 1, ((k + 1 : Nat) : Int)⟩ := by
    rw [Pf.of, hlast, show ((k : Int) + 1) = ((k + 1 : Nat) : Int) by omega, lowN_nat _ _ (by omega), last_kid htop hk32 hl]
  have hhalf := halves_v (⟨x, (k : Int)⟩ : Pf) w hl hval (by show (k : Int) < 32; omega)
  rw [hof0, hof1, e2, e3] at hhalf
  exact hhalf
/-- What pieces leaves. -/
def PcR (base : Nat) (M : List En) (v : Value) (w0 : World) (r : Value) (w' : World) : Prop :=
  Own w' base 42 3 r (M.map En.cells) ∧ ∀ c, r.ownBlock = some c → v.ownBlock = some c ∨ w0.heap.size ≤ c
def enP (value : Int) (l : List Pf) : List En := l.map fun p => ⟨p, value⟩
theorem pcs_two {lo hi f x : Nat} (h1 : ¬(x + (2 ^ (f + 1) - 1) < lo ∨ hi < x)) (h2 : ¬(lo ≤ x ∧ x + (2 ^ (f + 1) - 1) ≤ hi)) : pcs lo hi (f + 1) x = pcs lo hi f x ++ pcs lo hi f (x + 2 ^ f) := by rw [pcs, if_neg h1, if_neg h2]
theorem pcs_out {lo hi : Nat} : ∀ f x, (x + (2 ^ f - 1) < lo ∨ hi < x) → pcs lo hi f x = []
  | 0, x, h => by rw [pcs, if_pos (by simpa using h)]
  | f + 1, x, h => by rw [pcs, if_pos h]
theorem pcs_all {lo hi : Nat} : ∀ f x, ¬(x + (2 ^ f - 1) < lo ∨ hi < x) → lo ≤ x ∧ x + (2 ^ f - 1) ≤ hi → pcs lo hi f x = [pfB f x]
  | 0, x, h, _ => by rw [pcs, if_neg (by simpa using h)]
  | f + 1, x, h, h2 => by rw [pcs, if_neg h, if_pos h2]
set_option maxHeartbeats 2000000 in
theorem pieces_v (base lo hi : Nat) (value : Int) : ∀ f, f ≤ 32 → ∀ (x : Nat) (v : Value) (M : List En) (w : World), x % 2 ^ f = 0 → x + 2 ^ f ≤ 4294967296 → Own w base 42 3 v (M.map En.cells) → base ≤ w.heap.size → M.length + 2 ^ f ≤ 8589934592 →
    Calls Try.prog 57 #[v, (pfB f x).val, .int .u64 lo, .int .u64 hi, .int .i64 value] w (Does (fun c => v.ownBlock = some c) (PcR base (M ++ enP value (pcs lo hi f x)) v w) w) := by
  intro f
  induction f with
  | zero =>
    intro hf x v M w hx h32 hO hb hn
    obtain ⟨hval, hlast⟩ := pfB_valid hf hx
    have hg : 0 < 2 ^ 0 := Nat.two_pow_pos _
    have hxl : x < 4294967296 := by omega
    have hcl := fun w_ => last_v (pfB 0 x) w_ hxl
    have hpa : (pfB 0 x).a < 4294967296 := hxl
    rw [hlast] at hcl
    obtain ⟨to, hto⟩ : ∃ to, to = x + (2 ^ 0 - 1) := ⟨_, rfl⟩
    rw [← hto] at hcl
    have hO2 : ∃ a0 c0, v = .slice a0 M.length c0 := by obtain ⟨a, c, h, _⟩ := ownS hO; exact ⟨a, c, h⟩
    have hall := @pcs_all lo hi 0 x
    have hout := @pcs_out lo hi 0 x
    rw [← hto] at hall hout
    refine V_enter (vs := [_, _, _, _, _]) Try.func57 rfl Try.ntmps57 (Nat.le_of_ble_eq_true rfl) ?_
    repeat (first | refine Vx ?_ | (apply Ops_q; (case hon => exact Va); (case hd => rfl); (case hq => exact YlA)) | refine Vr ?_ | refine Vt ?_ | refine Vf ?_ | refine Vm ?_ | refine Ve ?_ | refine Vo ?_ | refine Vz ?_ | refine Vn ?_)
    (refine Ops_box (by exact Va) rfl rfl rfl ?_; intro w1 b6 n_b6; have k_b6 := n_b6.blk)
    have x1 := n_b6.ext
    have hO1 := hO.ext x1
    clear n_b6
    repeat (first | refine Vx ?_ | (apply Ops_q; (case hon => exact Va); (case hd => rfl); (case hq => exact YlA)) | refine Vr ?_ | refine Vt ?_ | refine Vf ?_ | refine Vm ?_ | refine Ve ?_ | refine Vo ?_ | refine Vz ?_ | refine Vn ?_)
    (apply Ops_q; (case hon => (exact Va)); (case hd => rfl); (case hq => exact Yl_call rfl (fun w_ e_ => hcl w_)))
    repeat (first | refine Vx ?_ | (apply Ops_q; (case hon => exact Va); (case hd => rfl); (case hq => exact YlA)) | refine Vr ?_ | refine Vt ?_ | refine Vf ?_ | refine Vm ?_ | refine Ve ?_ | refine Vo ?_ | refine Vz ?_ | refine Vn ?_)
    by_cases t1 : to < lo
    · have d1 : decide ((to : Int) < (lo : Int)) = true := decide_eq_true (by omega)
      refine Ops_know rfl rfl d1 ?_
      repeat (first | refine Vx ?_ | (apply Ops_q; (case hon => exact Va); (case hd => rfl); (case hq => exact YlA)) | refine Vr ?_ | refine Vt ?_ | refine Vf ?_ | refine Vm ?_ | refine Ve ?_ | refine Vo ?_ | refine Vz ?_ | refine Vn ?_)
      refine ret1 (by first | exact .inl rfl | exact .inr rfl) rfl rfl ?_
      refine Does_mk (fun w' he => ⟨?_, fun c hc => .inl hc⟩) (.of_ext x1)
      rw [hout (.inl t1), enP, List.map_nil, List.append_nil]; exact hO1.ext he
    have d1 : decide ((to : Int) < (lo : Int)) = false := decide_eq_false (by omega)
    refine Ops_know rfl rfl d1 ?_
    repeat (first | refine Vx ?_ | (apply Ops_q; (case hon => exact Va); (case hd => rfl); (case hq => exact YlA)) | refine Vr ?_ | refine Vt ?_ | refine Vf ?_ | refine Vm ?_ | refine Ve ?_ | refine Vo ?_ | refine Vz ?_ | refine Vn ?_)
    by_cases t2 : hi < x
    · have d2 : decide ((hi : Int) < (x : Int)) = true := decide_eq_true (by omega)
      refine V_yes rfl d2 ?_
      repeat (first | refine Vx ?_ | (apply Ops_q; (case hon => exact Va); (case hd => rfl); (case hq => exact YlA)) | refine Vr ?_ | refine Vt ?_ | refine Vf ?_ | refine Vm ?_ | refine Ve ?_ | refine Vo ?_ | refine Vz ?_ | refine Vn ?_)
      refine ret1 (by first | exact .inl rfl | exact .inr rfl) rfl rfl ?_
      refine Does_mk (fun w' he => ⟨?_, fun c hc => .inl hc⟩) (.of_ext x1)
      rw [hout (.inr t2), enP, List.map_nil, List.append_nil]; exact hO1.ext he
    have d2 : decide ((hi : Int) < (x : Int)) = false := decide_eq_false (by omega)
    refine V_no rfl d2 ?_
    have hno : ¬(to < lo ∨ hi < x) := fun h => h.elim t1 t2
    clear d1 d2 hout
    have hyes : lo ≤ x ∧ to ≤ hi → ∀ (a b : Nat) (w2 w3 : World) (v2 : Value), Ext w w2 → Own w3 base 42 3 v2 (M.map En.cells ++ [[.int .u32 (pfB 0 x).a, .int .i64 (pfB 0 x).n, .int .i64 value]]) → w2.grownBy w3 v.ownBlock → (v2.ownBlock = v.ownBlock ∨ ∃ b, v2.ownBlock = some b ∧ w2.heap.size ≤ b) → ∀ w', Ext w3 w' → Does (fun c => v.ownBlock = some c) (PcR base (M ++ enP value (pcs lo hi 0 x)) v w) w (.returned v2) w' := fun h3 _ _ w2 w3 v2 e2 o3 g3 d3 => by
      refine Does_mk (fun w' he => ⟨?_, fun c hc => ?_⟩) ((Mod.of_ext e2).grow g3 (fun b hb => .inl hb))
      · rw [hall hno h3, enP, List.map_append]; exact o3.ext he
      · rcases d3 with h | ⟨b, h, h'⟩
        · rw [h] at hc; exact .inl hc
        · rw [h] at hc; cases hc; exact .inr (Nat.le_trans e2.size h')
    have e0 : to = x := by rw [hto]; simp
    have t3 : lo ≤ x := by omega
    have t4 : to ≤ hi := by omega
    have d3 : decide ((lo : Int) ≤ (x : Int)) = true := decide_eq_true (by omega)
    have d4 : decide ((to : Int) ≤ (hi : Int)) = true := decide_eq_true (by omega)
    repeat (first | refine Vx ?_ | (apply Ops_q; (case hon => exact Va); (case hd => rfl); (case hq => exact YlA)) | refine Vr ?_ | refine Vt ?_ | refine Vf ?_ | refine Vm ?_ | refine Ve ?_ | refine Vo ?_ | refine Vz ?_ | refine Vn ?_)
    refine Ops_know rfl rfl d3 ?_
    repeat (first | refine Vx ?_ | (apply Ops_q; (case hon => exact Va); (case hd => rfl); (case hq => exact YlA)) | refine Vr ?_ | refine Vt ?_ | refine Vf ?_ | refine Vm ?_ | refine Ve ?_ | refine Vo ?_ | refine Vz ?_ | refine Vn ?_)
    refine V_yes rfl d4 ?_
    repeat (first | refine Vx ?_ | (apply Ops_q; (case hon => exact Va); (case hd => rfl); (case hq => exact YlA)) | refine Vr ?_ | refine Vt ?_ | refine Vf ?_ | refine Vm ?_ | refine Ve ?_ | refine Vo ?_ | refine Vz ?_ | refine Vn ?_)
    (refine Ops_lit (by exact Va) rfl rfl rfl ?_; intro w2 b2 n_b2; have k_b2 := n_b2.blk)
    have o2 := hO1.ext n_b2.ext
    have hlen : (M.map En.cells).length ≤ 8589934592 := by rw [List.length_map]; omega
    repeat (first | refine Vx ?_ | (apply Ops_q; (case hon => exact Va); (case hd => rfl); (case hq => exact YlA)) | refine Vr ?_ | refine Vt ?_ | refine Vf ?_ | refine Vm ?_ | refine Ve ?_ | refine Vo ?_ | refine Vz ?_ | refine Vn ?_)
    (refine Ops_append1 (by exact Va) rfl rfl rfl rfl o2 k_b2.cells inferInstance inferInstance (by first | omega | (rw [List.length_map]; omega)) rfl (Nat.le_trans hb (x1.trans n_b2.ext).size) ?_; intro v2 w3 o_v2 g_w3 d_v2)
    repeat (first | refine Vx ?_ | (apply Ops_q; (case hon => exact Va); (case hd => rfl); (case hq => exact YlA)) | refine Vr ?_ | refine Vt ?_ | refine Vf ?_ | refine Vm ?_ | refine Ve ?_ | refine Vo ?_ | refine Vz ?_ | refine Vn ?_)
    refine ret1 (by first | exact .inl rfl | exact .inr rfl) rfl rfl ?_
    exact hyes ⟨t3, t4⟩ 0 0 w2 w3 v2 (x1.trans n_b2.ext) o_v2 g_w3 d_v2
  | succ f ih =>
    intro hf x v M w hx h32 hO hb hn
    obtain ⟨hval, hlast⟩ := pfB_valid hf hx
    have hg : 0 < 2 ^ (f + 1) := Nat.two_pow_pos _
    have hxl : x < 4294967296 := by omega
    have hcl := fun w_ => last_v (pfB (f + 1) x) w_ hxl
    have hpa : (pfB (f + 1) x).a < 4294967296 := hxl
    rw [hlast] at hcl
    obtain ⟨to, hto⟩ : ∃ to, to = x + (2 ^ (f + 1) - 1) := ⟨_, rfl⟩
    rw [← hto] at hcl
    have hO2 : ∃ a0 c0, v = .slice a0 M.length c0 := by obtain ⟨a, c, h, _⟩ := ownS hO; exact ⟨a, c, h⟩
    have hall := @pcs_all lo hi (f + 1) x
    have hout := @pcs_out lo hi (f + 1) x
    rw [← hto] at hall hout
    refine V_enter (vs := [_, _, _, _, _]) Try.func57 rfl Try.ntmps57 (Nat.le_of_ble_eq_true rfl) ?_
    repeat (first | refine Vx ?_ | (apply Ops_q; (case hon => exact Va); (case hd => rfl); (case hq => exact YlA)) | refine Vr ?_ | refine Vt ?_ | refine Vf ?_ | refine Vm ?_ | refine Ve ?_ | refine Vo ?_ | refine Vz ?_ | refine Vn ?_)
    (refine Ops_box (by exact Va) rfl rfl rfl ?_; intro w1 b6 n_b6; have k_b6 := n_b6.blk)
    have x1 := n_b6.ext
    have hO1 := hO.ext x1
    clear n_b6
    repeat (first | refine Vx ?_ | (apply Ops_q; (case hon => exact Va); (case hd => rfl); (case hq => exact YlA)) | refine Vr ?_ | refine Vt ?_ | refine Vf ?_ | refine Vm ?_ | refine Ve ?_ | refine Vo ?_ | refine Vz ?_ | refine Vn ?_)
    (apply Ops_q; (case hon => (exact Va)); (case hd => rfl); (case hq => exact Yl_call rfl (fun w_ e_ => hcl w_)))
    repeat (first | refine Vx ?_ | (apply Ops_q; (case hon => exact Va); (case hd => rfl); (case hq => exact YlA)) | refine Vr ?_ | refine Vt ?_ | refine Vf ?_ | refine Vm ?_ | refine Ve ?_ | refine Vo ?_ | refine Vz ?_ | refine Vn ?_)
    by_cases t1 : to < lo
    · have d1 : decide ((to : Int) < (lo : Int)) = true := decide_eq_true (by omega)
      refine Ops_know rfl rfl d1 ?_
      repeat (first | refine Vx ?_ | (apply Ops_q; (case hon => exact Va); (case hd => rfl); (case hq => exact YlA)) | refine Vr ?_ | refine Vt ?_ | refine Vf ?_ | refine Vm ?_ | refine Ve ?_ | refine Vo ?_ | refine Vz ?_ | refine Vn ?_)
      refine ret1 (by first | exact .inl rfl | exact .inr rfl) rfl rfl ?_
      refine Does_mk (fun w' he => ⟨?_, fun c hc => .inl hc⟩) (.of_ext x1)
      rw [hout (.inl t1), enP, List.map_nil, List.append_nil]; exact hO1.ext he
    have d1 : decide ((to : Int) < (lo : Int)) = false := decide_eq_false (by omega)
    refine Ops_know rfl rfl d1 ?_
    repeat (first | refine Vx ?_ | (apply Ops_q; (case hon => exact Va); (case hd => rfl); (case hq => exact YlA)) | refine Vr ?_ | refine Vt ?_ | refine Vf ?_ | refine Vm ?_ | refine Ve ?_ | refine Vo ?_ | refine Vz ?_ | refine Vn ?_)
    by_cases t2 : hi < x
    · have d2 : decide ((hi : Int) < (x : Int)) = true := decide_eq_true (by omega)
      refine V_yes rfl d2 ?_
      repeat (first | refine Vx ?_ | (apply Ops_q; (case hon => exact Va); (case hd => rfl); (case hq => exact YlA)) | refine Vr ?_ | refine Vt ?_ | refine Vf ?_ | refine Vm ?_ | refine Ve ?_ | refine Vo ?_ | refine Vz ?_ | refine Vn ?_)
      refine ret1 (by first | exact .inl rfl | exact .inr rfl) rfl rfl ?_
      refine Does_mk (fun w' he => ⟨?_, fun c hc => .inl hc⟩) (.of_ext x1)
      rw [hout (.inr t2), enP, List.map_nil, List.append_nil]; exact hO1.ext he
    have d2 : decide ((hi : Int) < (x : Int)) = false := decide_eq_false (by omega)
    refine V_no rfl d2 ?_
    have hno : ¬(to < lo ∨ hi < x) := fun h => h.elim t1 t2
    clear d1 d2 hout
    have hyes : lo ≤ x ∧ to ≤ hi → ∀ (a b : Nat) (w2 w3 : World) (v2 : Value), Ext w w2 → Own w3 base 42 3 v2 (M.map En.cells ++ [[.int .u32 (pfB (f + 1) x).a, .int .i64 (pfB (f + 1) x).n, .int .i64 value]]) → w2.grownBy w3 v.ownBlock → (v2.ownBlock = v.ownBlock ∨ ∃ b, v2.ownBlock = some b ∧ w2.heap.size ≤ b) → ∀ w', Ext w3 w' → Does (fun c => v.ownBlock = some c) (PcR base (M ++ enP value (pcs lo hi (f + 1) x)) v w) w (.returned v2) w' := fun h3 _ _ w2 w3 v2 e2 o3 g3 d3 => by
      refine Does_mk (fun w' he => ⟨?_, fun c hc => ?_⟩) ((Mod.of_ext e2).grow g3 (fun b hb => .inl hb))
      · rw [hall hno h3, enP, List.map_append]; exact o3.ext he
      · rcases d3 with h | ⟨b, h, h'⟩
        · rw [h] at hc; exact .inl hc
        · rw [h] at hc; cases hc; exact .inr (Nat.le_trans e2.size h')
    have e2 : 2 ^ (f + 1) = 2 ^ f + 2 ^ f := by rw [Nat.pow_succ]; omega
    have hg2 : 0 < 2 ^ f := Nat.two_pow_pos f
    obtain ⟨al1, al2⟩ := al_half hx
    have hrest : ¬(lo ≤ x ∧ to ≤ hi) → pcs lo hi (f + 1) x = pcs lo hi f x ++ pcs lo hi f (x + 2 ^ f) := fun h => by rw [hto] at hno h; exact pcs_two hno h
    have hhv := fun w_ => halvesB_v f x w_ hf hx hxl
    have hlen1 : (enP value (pcs lo hi f x)).length ≤ 2 ^ f := by
      rw [enP, List.length_map]
      have := pcs_len (lo := lo) (hi := hi) f x
      omega
    have ih1 := fun (w_ : World) (e_ : Ext w w_) => ih (by omega) x v M w_ al1 (by omega) (hO.ext e_) (Nat.le_trans hb e_.size) (by omega)
    have ih2 := fun (v' : Value) (w_ : World) (h1 : Own w_ base 42 3 v' ((M ++ enP value (pcs lo hi f x)).map En.cells)) (h2 : base ≤ w_.heap.size) => ih (by omega) (x + 2 ^ f) v' (M ++ enP value (pcs lo hi f x)) w_ al2 (by omega) h1 h2 (by rw [List.length_append]; omega)
    clear ih hlen1 al1 al2 e2
    repeat (first | refine Vx ?_ | (apply Ops_q; (case hon => exact Va); (case hd => rfl); (case hq => exact YlA)) | refine Vr ?_ | refine Vt ?_ | refine Vf ?_ | refine Vm ?_ | refine Ve ?_ | refine Vo ?_ | refine Vz ?_ | refine Vn ?_)
    by_cases t3 : lo ≤ x
    · have d3 : decide ((lo : Int) ≤ (x : Int)) = true := decide_eq_true (by omega)
      refine Ops_know rfl rfl d3 ?_
      repeat (first | refine Vx ?_ | (apply Ops_q; (case hon => exact Va); (case hd => rfl); (case hq => exact YlA)) | refine Vr ?_ | refine Vt ?_ | refine Vf ?_ | refine Vm ?_ | refine Ve ?_ | refine Vo ?_ | refine Vz ?_ | refine Vn ?_)
      by_cases t4 : to ≤ hi
      · have d4 : decide ((to : Int) ≤ (hi : Int)) = true := decide_eq_true (by omega)
        refine V_yes rfl d4 ?_
        repeat (first | refine Vx ?_ | (apply Ops_q; (case hon => exact Va); (case hd => rfl); (case hq => exact YlA)) | refine Vr ?_ | refine Vt ?_ | refine Vf ?_ | refine Vm ?_ | refine Ve ?_ | refine Vo ?_ | refine Vz ?_ | refine Vn ?_)
        (refine Ops_lit (by exact Va) rfl rfl rfl ?_; intro w2 b2 n_b2; have k_b2 := n_b2.blk)
        have o2 := hO1.ext n_b2.ext
        have hlen : (M.map En.cells).length ≤ 8589934592 := by rw [List.length_map]; omega
        repeat (first | refine Vx ?_ | (apply Ops_q; (case hon => exact Va); (case hd => rfl); (case hq => exact YlA)) | refine Vr ?_ | refine Vt ?_ | refine Vf ?_ | refine Vm ?_ | refine Ve ?_ | refine Vo ?_ | refine Vz ?_ | refine Vn ?_)
        (refine Ops_append1 (by exact Va) rfl rfl rfl rfl o2 k_b2.cells inferInstance inferInstance (by first | omega | (rw [List.length_map]; omega)) rfl (Nat.le_trans hb (x1.trans n_b2.ext).size) ?_; intro v2 w3 o_v2 g_w3 d_v2)
        repeat (first | refine Vx ?_ | (apply Ops_q; (case hon => exact Va); (case hd => rfl); (case hq => exact YlA)) | refine Vr ?_ | refine Vt ?_ | refine Vf ?_ | refine Vm ?_ | refine Ve ?_ | refine Vo ?_ | refine Vz ?_ | refine Vn ?_)
        refine ret1 (by first | exact .inl rfl | exact .inr rfl) rfl rfl ?_
        exact hyes ⟨t3, t4⟩ 0 0 w2 w3 v2 (x1.trans n_b2.ext) o_v2 g_w3 d_v2
      · have d4 : decide ((to : Int) ≤ (hi : Int)) = false := decide_eq_false (by omega)
        have hnot : ¬(lo ≤ x ∧ to ≤ hi) := fun h => t4 h.2
        refine V_no rfl d4 ?_
        repeat (first | refine Vx ?_ | (apply Ops_q; (case hon => exact Va); (case hd => rfl); (case hq => exact YlA)) | refine Vr ?_ | refine Vt ?_ | refine Vf ?_ | refine Vm ?_ | refine Ve ?_ | refine Vo ?_ | refine Vz ?_ | refine Vn ?_)
        (apply Ops_q; (case hon => (exact Va)); (case hd => rfl); (case hq => exact Yl_call rfl (fun w_ e_ => hhv w_)))
        repeat (first | refine Vx ?_ | (apply Ops_q; (case hon => exact Va); (case hd => rfl); (case hq => exact YlA)) | refine Vr ?_ | refine Vt ?_ | refine Vf ?_ | refine Vm ?_ | refine Ve ?_ | refine Vo ?_ | refine Vz ?_ | refine Vn ?_)
        (refine Ops_alloc (by exact Va) rfl ?_; intro w2 b2 n_b2; have k_b2 := n_b2.blk)
        repeat (first | refine Vx ?_ | (apply Ops_q; (case hon => exact Va); (case hd => rfl); (case hq => exact YlA)) | refine Vr ?_ | refine Vt ?_ | refine Vf ?_ | refine Vm ?_ | refine Ve ?_ | refine Vo ?_ | refine Vz ?_ | refine Vn ?_)
        (refine Ops_alloc (by exact Va) rfl ?_; intro w3 b3 n_b3; have k_b3 := n_b3.blk)
        have n23 : b2 ≠ b3 := Nat.ne_of_lt (Nat.lt_of_lt_of_le k_b2.lt n_b3.ge)
        have x2 := x1.trans n_b2.ext
        have x3 := x2.trans n_b3.ext
        have g2 : w.heap.size ≤ b2 := Nat.le_trans x1.size n_b2.ge
        have g3 : w.heap.size ≤ b3 := Nat.le_trans x2.size n_b3.ge
        replace k_b2 := k_b2.ext n_b3.ext
        clear n_b2 n_b3
        repeat (first | refine Vx ?_ | (apply Ops_q; (case hon => exact Va); (case hd => rfl); (case hq => exact YlA)) | refine Vr ?_ | refine Vt ?_ | refine Vf ?_ | refine Vm ?_ | refine Ve ?_ | refine Vo ?_ | refine Vz ?_ | refine Vn ?_)
        (refine Ops_store (by exact Va) rfl rfl (by assumption) (by first | rfl | exact OneAll.h) ?_; intro w4 u_w4; have k_b2 := u_w4.blk)
        replace k_b3 := u_w4.keep k_b3 (Ne.symm n23)
        have x4 := u_w4.below x3 g2
        clear u_w4
        repeat (first | refine Vx ?_ | (apply Ops_q; (case hon => exact Va); (case hd => rfl); (case hq => exact YlA)) | refine Vr ?_ | refine Vt ?_ | refine Vf ?_ | refine Vm ?_ | refine Ve ?_ | refine Vo ?_ | refine Vz ?_ | refine Vn ?_)
        (refine Ops_store (by exact Va) rfl rfl (by assumption) (by first | rfl | exact OneAll.h) ?_; intro w5 u_w5; have k_b3 := u_w5.blk)
        replace k_b2 := u_w5.keep k_b2 n23
        have x5 := u_w5.below x4 g3
        clear u_w5
        obtain ⟨a0, c0, rfl⟩ := hO2
        repeat (first | refine Vx ?_ | (apply Ops_q; (case hon => exact Va); (case hd => rfl); (case hq => exact YlA)) | refine Vr ?_ | refine Vt ?_ | refine Vf ?_ | refine Vm ?_ | refine Ve ?_ | refine Vo ?_ | refine Vz ?_ | refine Vn ?_)
        refine Ops_callM (S := fun c => (Value.slice a0 M.length c0).ownBlock = some c) (R := fun w0 => PcR base (M ++ enP value (pcs lo hi f x)) (.slice a0 M.length c0) w0) (by exact Va) rfl rfl (fun w_ e_ => ih1 w_ (x5.trans e_)) ?_
        intro v6 w6 w0_ e0 m6 hR
        obtain ⟨o6, f6⟩ := hR
        have m56 : Mod (fun c => (Value.slice a0 M.length c0).ownBlock = some c) w5 w6 := (Mod.of_ext e0).trans m6
        have hO5 := hO.ext x5
        have k3 := m56.blk k_b3 (own_blk_ne hO5 k_b3 rfl)
        have mw6 : Mod (fun c => (Value.slice a0 M.length c0).ownBlock = some c) w w6 := (Mod.of_ext x5).trans m56
        have hb6 : base ≤ w6.heap.size := Nat.le_trans hb mw6.size
        repeat (first | refine Vx ?_ | (apply Ops_q; (case hon => exact Va); (case hd => rfl); (case hq => exact YlA)) | refine Vr ?_ | refine Vt ?_ | refine Vf ?_ | refine Vm ?_ | refine Ve ?_ | refine Vo ?_ | refine Vz ?_ | refine Vn ?_)
        refine Ops_callM (S := fun c => v6.ownBlock = some c) (R := fun w0 => PcR base ((M ++ enP value (pcs lo hi f x)) ++ enP value (pcs lo hi f (x + 2 ^ f))) v6 w0) (by exact Va) rfl rfl (fun w_ e_ => ih2 v6 w_ (o6.ext e_) (Nat.le_trans hb6 e_.size)) ?_
        intro v7 w7 w0_' e0' m7 hR
        obtain ⟨o7, f7⟩ := hR
        have m67 : Mod (fun c => v6.ownBlock = some c) w6 w7 := (Mod.of_ext e0').trans m7
        have f6' : ∀ c, v6.ownBlock = some c → (Value.slice a0 M.length c0).ownBlock = some c ∨ w.heap.size ≤ c := fun c hc => (f6 c hc).imp id (fun h => Nat.le_trans (x5.trans e0).size h)
        repeat (first | refine Vx ?_ | (apply Ops_q; (case hon => exact Va); (case hd => rfl); (case hq => exact YlA)) | refine Vr ?_ | refine Vt ?_ | refine Vf ?_ | refine Vm ?_ | refine Ve ?_ | refine Vo ?_ | refine Vz ?_ | refine Vn ?_)
        refine ret1 (by first | exact .inl rfl | exact .inr rfl) rfl rfl ?_
        refine Does_mk (fun w' he => ⟨?_, fun c hc => ?_⟩) (mw6.trans' m67 f6')
        · have : M ++ enP value (pcs lo hi (f + 1) x) = (M ++ enP value (pcs lo hi f x)) ++ enP value (pcs lo hi f (x + 2 ^ f)) := by
            rw [hrest hnot, enP, List.map_append, List.append_assoc]; rfl
          rw [this]; exact o7.ext he
        · rcases f7 c hc with h | h
          · exact f6' c h
          · exact .inr (Nat.le_trans (Nat.le_trans mw6.size e0'.size) h)
    · have d3 : decide ((lo : Int) ≤ (x : Int)) = false := decide_eq_false (by omega)
      have hnot : ¬(lo ≤ x ∧ to ≤ hi) := fun h => t3 h.1
      refine Ops_know rfl rfl d3 ?_
      repeat (first | refine Vx ?_ | (apply Ops_q; (case hon => exact Va); (case hd => rfl); (case hq => exact YlA)) | refine Vr ?_ | refine Vt ?_ | refine Vf ?_ | refine Vm ?_ | refine Ve ?_ | refine Vo ?_ | refine Vz ?_ | refine Vn ?_)
      (apply Ops_q; (case hon => (exact Va)); (case hd => rfl); (case hq => exact Yl_call rfl (fun w_ e_ => hhv w_)))
      repeat (first | refine Vx ?_ | (apply Ops_q; (case hon => exact Va); (case hd => rfl); (case hq => exact YlA)) | refine Vr ?_ | refine Vt ?_ | refine Vf ?_ | refine Vm ?_ | refine Ve ?_ | refine Vo ?_ | refine Vz ?_ | refine Vn ?_)
      (refine Ops_alloc (by exact Va) rfl ?_; intro w2 b2 n_b2; have k_b2 := n_b2.blk)
      repeat (first | refine Vx ?_ | (apply Ops_q; (case hon => exact Va); (case hd => rfl); (case hq => exact YlA)) | refine Vr ?_ | refine Vt ?_ | refine Vf ?_ | refine Vm ?_ | refine Ve ?_ | refine Vo ?_ | refine Vz ?_ | refine Vn ?_)
      (refine Ops_alloc (by exact Va) rfl ?_; intro w3 b3 n_b3; have k_b3 := n_b3.blk)
      have n23 : b2 ≠ b3 := Nat.ne_of_lt (Nat.lt_of_lt_of_le k_b2.lt n_b3.ge)
      have x2 := x1.trans n_b2.ext
      have x3 := x2.trans n_b3.ext
      have g2 : w.heap.size ≤ b2 := Nat.le_trans x1.size n_b2.ge
      have g3 : w.heap.size ≤ b3 := Nat.le_trans x2.size n_b3.ge
      replace k_b2 := k_b2.ext n_b3.ext
      clear n_b2 n_b3
      repeat (first | refine Vx ?_ | (apply Ops_q; (case hon => exact Va); (case hd => rfl); (case hq => exact YlA)) | refine Vr ?_ | refine Vt ?_ | refine Vf ?_ | refine Vm ?_ | refine Ve ?_ | refine Vo ?_ | refine Vz ?_ | refine Vn ?_)
      (refine Ops_store (by exact Va) rfl rfl (by assumption) (by first | rfl | exact OneAll.h) ?_; intro w4 u_w4; have k_b2 := u_w4.blk)
      replace k_b3 := u_w4.keep k_b3 (Ne.symm n23)
      have x4 := u_w4.below x3 g2
      clear u_w4
      repeat (first | refine Vx ?_ | (apply Ops_q; (case hon => exact Va); (case hd => rfl); (case hq => exact YlA)) | refine Vr ?_ | refine Vt ?_ | refine Vf ?_ | refine Vm ?_ | refine Ve ?_ | refine Vo ?_ | refine Vz ?_ | refine Vn ?_)
      (refine Ops_store (by exact Va) rfl rfl (by assumption) (by first | rfl | exact OneAll.h) ?_; intro w5 u_w5; have k_b3 := u_w5.blk)
      replace k_b2 := u_w5.keep k_b2 n23
      have x5 := u_w5.below x4 g3
      clear u_w5
      obtain ⟨a0, c0, rfl⟩ := hO2
      repeat (first | refine Vx ?_ | (apply Ops_q; (case hon => exact Va); (case hd => rfl); (case hq => exact YlA)) | refine Vr ?_ | refine Vt ?_ | refine Vf ?_ | refine Vm ?_ | refine Ve ?_ | refine Vo ?_ | refine Vz ?_ | refine Vn ?_)
      refine Ops_callM (S := fun c => (Value.slice a0 M.length c0).ownBlock = some c) (R := fun w0 => PcR base (M ++ enP value (pcs lo hi f x)) (.slice a0 M.length c0) w0) (by exact Va) rfl rfl (fun w_ e_ => ih1 w_ (x5.trans e_)) ?_
      intro v6 w6 w0_ e0 m6 hR
      obtain ⟨o6, f6⟩ := hR
      have m56 : Mod (fun c => (Value.slice a0 M.length c0).ownBlock = some c) w5 w6 := (Mod.of_ext e0).trans m6
      have hO5 := hO.ext x5
      have k3 := m56.blk k_b3 (own_blk_ne hO5 k_b3 rfl)
      have mw6 : Mod (fun c => (Value.slice a0 M.length c0).ownBlock = some c) w w6 := (Mod.of_ext x5).trans m56
      have hb6 : base ≤ w6.heap.size := Nat.le_trans hb mw6.size
      repeat (first | refine Vx ?_ | (apply Ops_q; (case hon => exact Va); (case hd => rfl); (case hq => exact YlA)) | refine Vr ?_ | refine Vt ?_ | refine Vf ?_ | refine Vm ?_ | refine Ve ?_ | refine Vo ?_ | refine Vz ?_ | refine Vn ?_)
      refine Ops_callM (S := fun c => v6.ownBlock = some c) (R := fun w0 => PcR base ((M ++ enP value (pcs lo hi f x)) ++ enP value (pcs lo hi f (x + 2 ^ f))) v6 w0) (by exact Va) rfl rfl (fun w_ e_ => ih2 v6 w_ (o6.ext e_) (Nat.le_trans hb6 e_.size)) ?_
      intro v7 w7 w0_' e0' m7 hR
      obtain ⟨o7, f7⟩ := hR
      have m67 : Mod (fun c => v6.ownBlock = some c) w6 w7 := (Mod.of_ext e0').trans m7
      have f6' : ∀ c, v6.ownBlock = some c → (Value.slice a0 M.length c0).ownBlock = some c ∨ w.heap.size ≤ c := fun c hc => (f6 c hc).imp id (fun h => Nat.le_trans (x5.trans e0).size h)
      repeat (first | refine Vx ?_ | (apply Ops_q; (case hon => exact Va); (case hd => rfl); (case hq => exact YlA)) | refine Vr ?_ | refine Vt ?_ | refine Vf ?_ | refine Vm ?_ | refine Ve ?_ | refine Vo ?_ | refine Vz ?_ | refine Vn ?_)
      refine ret1 (by first | exact .inl rfl | exact .inr rfl) rfl rfl ?_
      refine Does_mk (fun w' he => ⟨?_, fun c hc => ?_⟩) (mw6.trans' m67 f6')
      · have : M ++ enP value (pcs lo hi (f + 1) x) = (M ++ enP value (pcs lo hi f x)) ++ enP value (pcs lo hi f (x + 2 ^ f)) := by
          rw [hrest hnot, enP, List.map_append, List.append_assoc]; rfl
        rw [this]; exact o7.ext he
      · rcases f7 c hc with h | h
        · exact f6' c h
        · exact .inr (Nat.le_trans (Nat.le_trans mw6.size e0'.size) h)
/-- What Table returns. -/
def TblR (N : List Nd) (L : List Int) (w0 : World) (r : Value) (w' : World) : Prop :=
  (∃ (R : List Rn) (g : Nat → Int) (v : Value), Canon g R 4294967296 ∧ GeM g ∧ IsCf g N L ∧ r = .tuple #[v, .int .i64 0] ∧ Own w' w0.heap.size 42 3 v ((tabE R R.length).map En.cells)) ∨
  ((∀ g, GeM g → ¬IsCf g N L) ∧ r = .tuple #[.slice none 0 0, .int .i64 (if N.length = 0 then 3 else 1)])
set_option maxHeartbeats 2000000 in
theorem tableS_v (aN aL : Option Addr) (N : List Nd) (L : List Int) (cN cL : Nat) (w : World) (hN : Nds w aN N) (hL : Ins w aL L) (hW : NdW N) (hn : N.length ≤ 80000000000) (hl : L.length ≤ 4611686018427387904) :
    Calls Try.prog 24 #[.agg #[.slice aN N.length cN, .slice aL L.length cL]] w (Gives (TblR N L w) w) := by
  refine V_enter (vs := [_]) Try.func24 rfl Try.ntmps24 (Nat.le_of_ble_eq_true rfl) ?_
  repeat (first | refine Vx ?_ | (apply Ops_q; (case hon => exact Va); (case hd => rfl); (case hq => exact YlA)) | refine Vr ?_ | refine Vt ?_ | refine Vf ?_ | refine Vm ?_ | refine Ve ?_ | refine Vo ?_ | refine Vz ?_ | refine Vn ?_)
  (refine Ops_box (by exact Va) rfl rfl rfl ?_; intro w1 b1 n_b1; have k_b1 := n_b1.blk)
  have x1 := n_b1.ext
  clear n_b1
  repeat (first | refine Vx ?_ | (apply Ops_q; (case hon => exact Va); (case hd => rfl); (case hq => exact YlA)) | refine Vr ?_ | refine Vt ?_ | refine Vf ?_ | refine Vm ?_ | refine Ve ?_ | refine Vo ?_ | refine Vz ?_ | refine Vn ?_)
  (refine Ops_callR (by exact Va) rfl rfl (fun w_ e_ => checkS_v aN aL N L cN cL w_ (hN.ext (x1.trans e_)) (hL.ext (x1.trans e_)) hW hn hl) ?_; intro vr w2 w0_ e0_ e1_ r_vr; have e_w2 := e0_.trans e1_; have b_vr := e0_.size; clear e0_ e1_)
  obtain ⟨v, rfl, hv⟩ := r_vr
  have x2 := x1.trans e_w2
  replace k_b1 := k_b1.ext e_w2
  clear b_vr e_w2 x1
  repeat (first | refine Vx ?_ | (apply Ops_q; (case hon => exact Va); (case hd => rfl); (case hq => exact YlA)) | refine Vr ?_ | refine Vt ?_ | refine Vf ?_ | refine Vm ?_ | refine Ve ?_ | refine Vo ?_ | refine Vz ?_ | refine Vn ?_)
  rcases hv with ⟨rfl, g0, hg0, hc0⟩ | ⟨rfl, hno⟩
  · repeat (first | refine Vx ?_ | (apply Ops_q; (case hon => exact Va); (case hd => rfl); (case hq => exact YlA)) | refine Vr ?_ | refine Vt ?_ | refine Vf ?_ | refine Vm ?_ | refine Ve ?_ | refine Vo ?_ | refine Vz ?_ | refine Vn ?_)
    (refine Ops_callR (by exact Va) rfl rfl (fun w_ e_ => decode_v aN aL N L cN cL w_ (hN.ext (x2.trans e_)) (hL.ext (x2.trans e_)) hW hn hl) ?_; intro vr w3 w0_ e0_ e1_ r_vr; have e_w3 := e0_.trans e1_; have b_vr := e0_.size; clear e0_ e1_)
    obtain ⟨vR, ok, rfl, hok1, hok0⟩ := r_vr
    cases ok with
    | false => exact absurd hc0 (hok0 rfl g0 hg0)
    | true =>
      obtain ⟨R, g, oR, hC, hcf, hg⟩ := hok1 rfl
      obtain ⟨aR, cR, rfl, hAR⟩ := ownS oR
      have hAR' : Rns w3 aR R := hAR
      have x3 := x2.trans e_w3
      have hRl := hC.len
      clear hok1 hok0 b_vr e_w3 oR hAR k_b1
      repeat (first | refine Vx ?_ | (apply Ops_q; (case hon => exact Va); (case hd => rfl); (case hq => exact YlA)) | refine Vr ?_ | refine Vt ?_ | refine Vf ?_ | refine Vm ?_ | refine Ve ?_ | refine Vo ?_ | refine Vz ?_ | refine Vn ?_)
      refine V_loop (fun s : Nat × Value => [(23, .int .i64 s.1), (22, .int .i64 R.length), (21, .slice aR R.length cR), (5, .slice aR R.length cR), (7, s.2)])
        (fun s w' => s.1 ≤ R.length ∧ Ext w3 w' ∧ Own w' w3.heap.size 42 3 s.2 ((tabE R s.1).map En.cells)) (fun s => R.length - s.1) (0, .slice none 0 0) (by repeat (first | exact trivial | refine ⟨rfl, ?_⟩)) ⟨Nat.zero_le _, Ext.refl _, Own.nil⟩ ?_
      rintro ⟨i, v⟩ w4 ⟨hi, x4, oT⟩
      dsimp only at hi oT ⊢
      repeat (first | refine Vx ?_ | (apply Ops_q; (case hon => exact Va); (case hd => rfl); (case hq => exact YlA)) | refine Vr ?_ | refine Vt ?_ | refine Vf ?_ | refine Vm ?_ | refine Ve ?_ | refine Vo ?_ | refine Vz ?_ | refine Vn ?_)
      refine V_cond rfl (fun hgd => ?_) (fun hgd => ?_)
      · have hil : i < R.length := by have := of_decide_eq_true hgd; omega
        clear hgd
        obtain ⟨r, hr⟩ : ∃ r, R[i]? = some r := ⟨_, List.getElem?_eq_getElem hil⟩
        obtain ⟨adR, rfl, hcR⟩ := hAR'.at hr
        have hcR4 : Cells w4 (adR.add (i * 2)) [.int .u64 r.1, .int .i64 r.2] := hcR.ext x4
        have hnx := hC.nxt hr
        have htl := tabE_len hC i hi
        rw [hr] at htl
        dsimp only at htl
        repeat (first | refine Vx ?_ | (apply Ops_q; (case hon => exact Va); (case hd => rfl); (case hq => exact YlA)) | refine Vr ?_ | refine Vt ?_ | refine Vf ?_ | refine Vm ?_ | refine Ve ?_ | refine Vo ?_ | refine Vz ?_ | refine Vn ?_)
        (apply Ops_q; (case hon => (exact Va)); (case hd => rfl); (case hq => exact Yl_indexS (j := i) rfl rfl (by omega)))
        repeat (first | refine Vx ?_ | (apply Ops_q; (case hon => exact Va); (case hd => rfl); (case hq => exact YlA)) | refine Vr ?_ | refine Vt ?_ | refine Vf ?_ | refine Vm ?_ | refine Ve ?_ | refine Vo ?_ | refine Vz ?_ | refine Vn ?_)
        (refine Ops_alloc (by exact Va) rfl ?_; intro w5 b9 n_b9; have k_b9 := n_b9.blk)
        repeat (first | refine Vx ?_ | (apply Ops_q; (case hon => exact Va); (case hd => rfl); (case hq => exact YlA)) | refine Vr ?_ | refine Vt ?_ | refine Vf ?_ | refine Vm ?_ | refine Ve ?_ | refine Vo ?_ | refine Vz ?_ | refine Vn ?_)
        (refine Ops_store (by exact Va) rfl rfl (by assumption) (by first | rfl | exact OneAll.h) ?_; intro w6 u_w6; have k_b9 := u_w6.blk)
        have y6 : Ext w4 w6 := u_w6.below n_b9.ext n_b9.ge
        have x6 := x4.trans y6
        have oT6 := oT.ext y6
        clear u_w6 n_b9
        repeat (first | refine Vx ?_ | (apply Ops_q; (case hon => exact Va); (case hd => rfl); (case hq => exact YlA)) | refine Vr ?_ | refine Vt ?_ | refine Vf ?_ | refine Vm ?_ | refine Ve ?_ | refine Vo ?_ | refine Vz ?_ | refine Vn ?_)
        have e1 : (i : Int) + 1 = ((i + 1 : Nat) : Int) := by omega
        have hnx1 : ((nxtR R i 4294967296 : Nat) : Int) - 1 = ((nxtR R i 4294967296 - 1 : Nat) : Int) := by omega
        refine V_meet1 (fun _ : Unit => [(10, .int .u64 (nxtR R i 4294967296 - 1 : Nat)), (9, .pointer (some ⟨b9, 0, none⟩)), (23, .int .i64 i), (22, .int .i64 R.length), (21, .slice (some adR) R.length cR), (5, .slice (some adR) R.length cR), (7, v)])
          (fun _ w' => w' = w6) ?_ ?_
        · by_cases hlast : i + 1 < R.length
          · have d1 : decide ((i : Int) + 1 < (R.length : Int)) = true := decide_eq_true (by omega)
            obtain ⟨s, hs⟩ : ∃ s, R[i + 1]? = some s := ⟨_, List.getElem?_eq_getElem hlast⟩
            have hns : nxtR R i 4294967296 = s.1 := by unfold nxtR; rw [hs]
            obtain ⟨adR', eA, hcS⟩ := hAR'.at hs
            cases eA
            have hcS6 : w6.cell? ((adR.add ((i + 1) * 2))) = some (.int .u64 s.1) := by
              have := (hcS.ext x6) 0 _ rfl
              rw [add_add, Nat.add_zero] at this; exact this
            rw [hns] at hnx1 hnx ⊢
            refine V_yes rfl d1 ?_
            repeat (first | refine Vx ?_ | (apply Ops_q; (case hon => exact Va); (case hd => rfl); (case hq => exact YlA)) | refine Vr ?_ | refine Vt ?_ | refine Vf ?_ | refine Vm ?_ | refine Ve ?_ | refine Vo ?_ | refine Vz ?_ | refine Vn ?_)
            rw [e1]
            (apply Ops_q; (case hon => (exact Va)); (case hd => rfl); (case hq => exact Yl_indexS (j := i + 1) rfl rfl (by omega)))
            repeat (first | refine Vx ?_ | (apply Ops_q; (case hon => exact Va); (case hd => rfl); (case hq => exact YlA)) | refine Vr ?_ | refine Vt ?_ | refine Vf ?_ | refine Vm ?_ | refine Ve ?_ | refine Vo ?_ | refine Vz ?_ | refine Vn ?_)
            rw [hnx1]
            exact ⟨(), (by repeat (first | exact trivial | refine ⟨rfl, ?_⟩)), rfl⟩
          · have d1 : decide ((i : Int) + 1 < (R.length : Int)) = false := decide_eq_false (by omega)
            have hns : nxtR R i 4294967296 = 4294967296 := by unfold nxtR; rw [List.getElem?_eq_none (by omega)]
            rw [hns]
            refine V_no rfl d1 ?_
            repeat (first | refine Vx ?_ | (apply Ops_q; (case hon => exact Va); (case hd => rfl); (case hq => exact YlA)) | refine Vr ?_ | refine Vt ?_ | refine Vf ?_ | refine Vm ?_ | refine Ve ?_ | refine Vo ?_ | refine Vz ?_ | refine Vn ?_)
            exact ⟨(), (by repeat (first | exact trivial | refine ⟨rfl, ?_⟩)), rfl⟩
        · rintro _ w7 rfl
          repeat (first | refine Vx ?_ | (apply Ops_q; (case hon => exact Va); (case hd => rfl); (case hq => exact YlA)) | refine Vr ?_ | refine Vt ?_ | refine Vf ?_ | refine Vm ?_ | refine Ve ?_ | refine Vo ?_ | refine Vz ?_ | refine Vn ?_)
          by_cases h0 : 0 ≤ r.2
          · have d2 : decide ((0 : Int) ≤ r.2) = true := decide_eq_true h0
            have hst : (tabE R (i + 1)) = tabE R i ++ enP r.2 (pcs r.1 (nxtR R i 4294967296 - 1) 32 0) := by
              rw [tabE]
              unfold runE
              rw [hr]
              dsimp only
              rw [if_pos h0]; rfl
            refine V_yes rfl d2 ?_
            repeat (first | refine Vx ?_ | (apply Ops_q; (case hon => exact Va); (case hd => rfl); (case hq => exact YlA)) | refine Vr ?_ | refine Vt ?_ | refine Vf ?_ | refine Vm ?_ | refine Ve ?_ | refine Vo ?_ | refine Vz ?_ | refine Vn ?_)
            refine Ops_callM (S := fun c => v.ownBlock = some c) (R := fun w0 => PcR w3.heap.size (tabE R i ++ enP r.2 (pcs r.1 (nxtR R i 4294967296 - 1) 32 0)) v w0) (by exact Va) rfl rfl (fun w_ e_ => pieces_v w3.heap.size r.1 (nxtR R i 4294967296 - 1) r.2 32 (Nat.le_refl _) 0 v (tabE R i) w_ rfl (by decide) (oT6.ext e_) (Nat.le_trans x6.size e_.size) (by rw [show (2 : Nat) ^ 32 = 4294967296 from rfl]; omega)) ?_
            intro v8 w8 w0_ e0 m8 hR
            obtain ⟨o8, _⟩ := hR
            have x8 : Ext w3 w8 := Mod.ext_of (x6.trans e0) m8 (fun c hc => oT6.ge hc)
            repeat (first | refine Vx ?_ | (apply Ops_q; (case hon => exact Va); (case hd => rfl); (case hq => exact YlA)) | refine Vr ?_ | refine Vt ?_ | refine Vf ?_ | refine Vm ?_ | refine Ve ?_ | refine Vo ?_ | refine Vz ?_ | refine Vn ?_)
            exact ⟨(i + 1, v8), (by repeat (first | exact trivial | refine ⟨rfl, ?_⟩)), ⟨hil, x8, by dsimp only; rw [hst]; exact o8⟩, by simp only; omega⟩
          · have d2 : decide ((0 : Int) ≤ r.2) = false := decide_eq_false h0
            have hst : (tabE R (i + 1)) = tabE R i := by
              rw [tabE]
              unfold runE
              rw [hr]
              dsimp only
              rw [if_neg h0, List.append_nil]
            refine V_no rfl d2 ?_
            repeat (first | refine Vx ?_ | (apply Ops_q; (case hon => exact Va); (case hd => rfl); (case hq => exact YlA)) | refine Vr ?_ | refine Vt ?_ | refine Vf ?_ | refine Vm ?_ | refine Ve ?_ | refine Vo ?_ | refine Vz ?_ | refine Vn ?_)
            exact ⟨(i + 1, v), (by repeat (first | exact trivial | refine ⟨rfl, ?_⟩)), ⟨hil, x6, by dsimp only; rw [hst]; exact oT6⟩, by simp only; omega⟩
      · obtain rfl : i = R.length := by have := of_decide_eq_false hgd; omega
        repeat (first | refine Vx ?_ | (apply Ops_q; (case hon => exact Va); (case hd => rfl); (case hq => exact YlA)) | refine Vr ?_ | refine Vt ?_ | refine Vf ?_ | refine Vm ?_ | refine Ve ?_ | refine Vo ?_ | refine Vz ?_ | refine Vn ?_)
        refine ret2 (by first | exact .inl rfl | exact .inr rfl) rfl rfl rfl ?_
        exact Gives_mk (fun w' he => .inl ⟨R, g, v, hC, hg, hcf, rfl, (oT.ext he).mono x3.size⟩) (x3.trans x4)
  · have hd : (!decide ((if N.length = 0 then (3 : Int) else 1) = 0)) = true := by split <;> rfl
    refine V_yes rfl hd ?_
    repeat (first | refine Vx ?_ | (apply Ops_q; (case hon => exact Va); (case hd => rfl); (case hq => exact YlA)) | refine Vr ?_ | refine Vt ?_ | refine Vf ?_ | refine Vm ?_ | refine Ve ?_ | refine Vo ?_ | refine Vz ?_ | refine Vn ?_)
    refine ret2 (by first | exact .inl rfl | exact .inr rfl) rfl rfl rfl ?_
    exact Gives_mk (fun _ _ => .inr ⟨hno, rfl⟩) x2
end Go.Proofs.Ytjpnaofoeeegeaa

/-
  Stride tables (layer 8): the statement StrideBack, walked.
  Conditions: addresses are below 2^32.
-/
namespace Go.Proofs.Ytjpnaofoeeegeaa
open Go.RowKit

theorem ownS2 {α : Type} {w : World} {base n0 : Nat} {e : TypeId} {v : Value} {f : α → List Value} {L : List α} (h : Own w base e n0 v (L.map f)) : ∃ ao c, v = .slice ao L.length c ∧ Arr w n0 ao (L.map f) ∧ (ao = none → c = 0) := by
  obtain ⟨ao, c, h1, h2, _, h4⟩ := h.slice2
  exact ⟨ao, c, by rw [h1, List.length_map], h2, h4⟩
/-- Where a prefix ends, as the statement says it. -/
theorem last_shl {p : Pf} (hv : p.valid = true) : ∃ k : Nat, p.n = ((32 - k : Nat) : Int) ∧ k ≤ 32 ∧ p.last + 1 = p.a + 2 ^ k := by
  obtain ⟨v1, v2, _⟩ := Pf.valid_iff.1 hv
  refine ⟨32 - p.n.toNat, by omega, by omega, ?_⟩
  rw [Pf.last, if_pos hv]
  have : 0 < 2 ^ (32 - p.n.toNat) := Nat.two_pow_pos _
  omega
set_option maxHeartbeats 4000000 in
theorem lawBack_v (ao : Option Addr) (T : List En) (c : Nat) (w : World) (hS : SlS w ao c T) (ha : ∀ e ∈ T, e.p.a < 4294967296) : Calls Try.prog 7 #[.slice ao T.length c] w (Ret (.bool true) w) := by
  have hT := hS.ens
  have hz := hS.nil
  refine V_enter (vs := [_]) Try.func7 rfl Try.ntmps7 (Nat.le_of_ble_eq_true rfl) ?_
  repeat (first | refine Vx ?_ | (apply Ops_q; (case hon => exact Va); (case hd => rfl); (case hq => exact YlA)) | refine Vr ?_ | refine Vt ?_ | refine Vf ?_ | refine Vm ?_ | refine Ve ?_ | refine Vo ?_ | refine Vz ?_ | refine Vn ?_)
  by_cases t1 : 60 < T.length
  · have d1 : decide ((60 : Int) < (T.length : Int)) = true := decide_eq_true (by omega)
    refine Ops_know rfl rfl d1 ?_
    repeat (first | refine Vx ?_ | (apply Ops_q; (case hon => exact Va); (case hd => rfl); (case hq => exact YlA)) | refine Vr ?_ | refine Vt ?_ | refine Vf ?_ | refine Vm ?_ | refine Ve ?_ | refine Vo ?_ | refine Vz ?_ | refine Vn ?_)
    (apply Ops_q; (case hon => (exact Va)); (case hd => rfl); (case hq => exact Yl_call rfl (fun w_ e_ => awake8_v w_)))
    repeat (first | refine Vx ?_ | (apply Ops_q; (case hon => exact Va); (case hd => rfl); (case hq => exact YlA)) | refine Vr ?_ | refine Vt ?_ | refine Vf ?_ | refine Vm ?_ | refine Ve ?_ | refine Vo ?_ | refine Vz ?_ | refine Vn ?_)
    refine ret1 (by first | exact .inl rfl | exact .inr rfl) rfl rfl ?_
    exact Ret_mk rfl (Ext.refl _)
  have d1 : decide ((60 : Int) < (T.length : Int)) = false := decide_eq_false (by omega)
  refine Ops_know rfl rfl d1 ?_
  have hn : T.length ≤ 1000000 := by omega
  clear t1 d1
  repeat (first | refine Vx ?_ | (apply Ops_q; (case hon => exact Va); (case hd => rfl); (case hq => exact YlA)) | refine Vr ?_ | refine Vt ?_ | refine Vf ?_ | refine Vm ?_ | refine Ve ?_ | refine Vo ?_ | refine Vz ?_ | refine Vn ?_)
  (apply Ops_q; (case hon => (exact Va)); (case hd => rfl); (case hq => exact Yl_call rfl (fun w_ e_ => checkR_v ao T c w_ (hT.ext e_) ha hn)))
  repeat (first | refine Vx ?_ | (apply Ops_q; (case hon => exact Va); (case hd => rfl); (case hq => exact YlA)) | refine Vr ?_ | refine Vt ?_ | refine Vf ?_ | refine Vm ?_ | refine Ve ?_ | refine Vo ?_ | refine Vz ?_ | refine Vn ?_)
  by_cases h0 : chk T ≠ 0
  · have d0 : (!decide (chk T = 0)) = true := by rw [decide_eq_false h0]; rfl
    refine V_yes rfl d0 ?_
    repeat (first | refine Vx ?_ | (apply Ops_q; (case hon => exact Va); (case hd => rfl); (case hq => exact YlA)) | refine Vr ?_ | refine Vt ?_ | refine Vf ?_ | refine Vm ?_ | refine Ve ?_ | refine Vo ?_ | refine Vz ?_ | refine Vn ?_)
    (apply Ops_q; (case hon => (exact Va)); (case hd => rfl); (case hq => exact Yl_call rfl (fun w_ e_ => awake8_v w_)))
    repeat (first | refine Vx ?_ | (apply Ops_q; (case hon => exact Va); (case hd => rfl); (case hq => exact YlA)) | refine Vr ?_ | refine Vt ?_ | refine Vf ?_ | refine Vm ?_ | refine Ve ?_ | refine Vo ?_ | refine Vz ?_ | refine Vn ?_)
    refine ret1 (by first | exact .inl rfl | exact .inr rfl) rfl rfl ?_
    exact Ret_mk rfl (Ext.refl _)
  replace h0 : chk T = 0 := Decidable.not_not.1 h0
  have d0 : (!decide (chk T = 0)) = false := by rw [decide_eq_true h0]; rfl
  refine V_no rfl d0 ?_
  clear d0
  repeat (first | refine Vx ?_ | (apply Ops_q; (case hon => exact Va); (case hd => rfl); (case hq => exact YlA)) | refine Vr ?_ | refine Vt ?_ | refine Vf ?_ | refine Vm ?_ | refine Ve ?_ | refine Vo ?_ | refine Vz ?_ | refine Vn ?_)
  (refine Ops_callR (by exact Va) rfl rfl (fun w_ e_ => build_v ao T c w_ (hT.ext e_) ha hn) ?_; intro v2 w2 w0_ e0_ e1_ r_v2; have e_w2 := e0_.trans e1_; have b_v2 := e0_.size; clear e0_ e1_)
  obtain ⟨aN, aL, N, L, cN, cL, rfl, hB, hN, hL⟩ := r_v2
  have hcf : IsCf (lk T) N L := by
    rcases hB with ⟨_, h⟩ | ⟨h, _⟩
    · exact h
    · exact absurd h0 h
  obtain ⟨q1, q2⟩ := hB.size
  have x2 := e_w2
  clear b_v2 e_w2 hB
  repeat (first | refine Vx ?_ | (apply Ops_q; (case hon => exact Va); (case hd => rfl); (case hq => exact YlA)) | refine Vr ?_ | refine Vt ?_ | refine Vf ?_ | refine Vm ?_ | refine Ve ?_ | refine Vo ?_ | refine Vz ?_ | refine Vn ?_)
  (refine Ops_alloc (by exact Va) rfl ?_; intro w3 b3 n_b3; have k_b3 := n_b3.blk)
  repeat (first | refine Vx ?_ | (apply Ops_q; (case hon => exact Va); (case hd => rfl); (case hq => exact YlA)) | refine Vr ?_ | refine Vt ?_ | refine Vf ?_ | refine Vm ?_ | refine Ve ?_ | refine Vo ?_ | refine Vz ?_ | refine Vn ?_)
  (refine Ops_store (by exact Va) rfl rfl (by assumption) (by first | rfl | exact OneAll.h) ?_; intro w4 u_w4; have k_b3 := u_w4.blk)
  have y4 : Ext w2 w4 := u_w4.below n_b3.ext n_b3.ge
  have x4 := x2.trans y4
  replace hN := hN.ext y4
  replace hL := hL.ext y4
  clear u_w4 n_b3 y4 x2
  repeat (first | refine Vx ?_ | (apply Ops_q; (case hon => exact Va); (case hd => rfl); (case hq => exact YlA)) | refine Vr ?_ | refine Vt ?_ | refine Vf ?_ | refine Vm ?_ | refine Ve ?_ | refine Vo ?_ | refine Vz ?_ | refine Vn ?_)
  (refine Ops_callR (by exact Va) rfl rfl (fun w_ e_ => tableS_v aN aL N L cN cL w_ (hN.ext e_) (hL.ext e_) hcf.w (by omega) (by omega)) ?_; intro v5 w5 w0_ e0_ e1_ r_v5; have e_w5 := e0_.trans e1_; have b_v5 := e0_.size; clear e0_ e1_)
  obtain ⟨R, g, vt, hC, hg, hcg, rfl, oT⟩ : ∃ (R : List Rn) (g : Nat → Int) (v : Value), Canon g R 4294967296 ∧ GeM g ∧ IsCf g N L ∧ v5 = .tuple #[v, .int .i64 0] ∧ Own w5 w0_.heap.size 42 3 v ((tabE R R.length).map En.cells) := by
    rcases r_v5 with h | ⟨hno, _⟩
    · exact h
    · exact absurd hcf (hno _ (geM_lk h0))
  have x5 := x4.trans e_w5
  replace hN := hN.ext e_w5
  replace hL := hL.ext e_w5
  replace k_b3 := k_b3.ext e_w5
  obtain ⟨bt, ct, rfl, hEt, hzt⟩ := ownS2 oT
  have hlkg : ∀ a, a < 4294967296 → g a = lk T a := fun a h => isCf_inj hcg hcf h
  have htb := tabE_tb hC R.length
  have hok : ∀ e ∈ tabE R R.length, e.p.valid = true ∧ 0 ≤ e.v ∧ 0 ≤ e.p.n ∧ e.p.n ≤ 32 ∧ e.p.last < 4294967296 ∧ e.p.a ≤ e.p.last := fun e he => tabE_ok hC he
  have hsrt := tabE_srt hC R.length
  have hlkt : ∀ a, a < 4294967296 → lk (tabE R R.length) a = lk T a := fun a h => (tabE_lk hC hg h).trans (hlkg a h)
  generalize tabE R R.length = t at *
  have hE : Ens w5 bt t := hEt
  clear r_v5 b_v5 e_w5 x4 oT hEt hC hcg hlkg R
  repeat (first | refine Vx ?_ | (apply Ops_q; (case hon => exact Va); (case hd => rfl); (case hq => exact YlA)) | refine Vr ?_ | refine Vt ?_ | refine Vf ?_ | refine Vm ?_ | refine Ve ?_ | refine Vo ?_ | refine Vz ?_ | refine Vn ?_)
  by_cases t2 : 2000 < t.length
  · have d2 : decide ((2000 : Int) < (t.length : Int)) = true := decide_eq_true (by omega)
    refine V_yes rfl d2 ?_
    repeat (first | refine Vx ?_ | (apply Ops_q; (case hon => exact Va); (case hd => rfl); (case hq => exact YlA)) | refine Vr ?_ | refine Vt ?_ | refine Vf ?_ | refine Vm ?_ | refine Ve ?_ | refine Vo ?_ | refine Vz ?_ | refine Vn ?_)
    (apply Ops_q; (case hon => (exact Va)); (case hd => rfl); (case hq => exact Yl_call rfl (fun w_ e_ => awake8_v w_)))
    repeat (first | refine Vx ?_ | (apply Ops_q; (case hon => exact Va); (case hd => rfl); (case hq => exact YlA)) | refine Vr ?_ | refine Vt ?_ | refine Vf ?_ | refine Vm ?_ | refine Ve ?_ | refine Vo ?_ | refine Vz ?_ | refine Vn ?_)
    refine ret1 (by first | exact .inl rfl | exact .inr rfl) rfl rfl ?_
    exact Ret_mk rfl x5
  have d2 : decide ((2000 : Int) < (t.length : Int)) = false := decide_eq_false (by omega)
  have htn : t.length ≤ 2000 := by omega
  have htn6 : t.length ≤ 1000000 := by omega
  clear t2
  refine V_no rfl d2 ?_
  clear d2
  repeat (first | refine Vx ?_ | (apply Ops_q; (case hon => exact Va); (case hd => rfl); (case hq => exact YlA)) | refine Vr ?_ | refine Vt ?_ | refine Vf ?_ | refine Vm ?_ | refine Ve ?_ | refine Vo ?_ | refine Vz ?_ | refine Vn ?_)
  refine V_loop (fun k : Nat => [(44, .int .i64 k), (43, .int .i64 t.length), (42, .slice bt t.length ct), (5, .slice bt t.length ct), (0, .slice ao T.length c), (3, .pointer (some ⟨b3, 0, none⟩))]) (fun k w' => Ext w5 w' ∧ k ≤ t.length) (fun k => t.length - k) 0 (by repeat (first | exact trivial | refine ⟨rfl, ?_⟩)) ⟨Ext.refl _, Nat.zero_le _⟩ ?_
  rintro k w6 ⟨x6, hk⟩
  repeat (first | refine Vx ?_ | (apply Ops_q; (case hon => exact Va); (case hd => rfl); (case hq => exact YlA)) | refine Vr ?_ | refine Vt ?_ | refine Vf ?_ | refine Vm ?_ | refine Ve ?_ | refine Vo ?_ | refine Vz ?_ | refine Vn ?_)
  refine V_cond rfl (fun hgd => ?_) (fun hgd => ?_)
  · have hkl : k < t.length := by have := of_decide_eq_true hgd; omega
    clear hgd
    obtain ⟨e, he⟩ : ∃ e, t[k]? = some e := ⟨_, List.getElem?_eq_getElem hkl⟩
    obtain ⟨hv, hv0, hn0, hn32, hl32, hal⟩ := hok e (List.mem_of_getElem? he)
    obtain ⟨ad, rfl, hce⟩ := hE.at he
    have hce6 : Cells w6 (ad.add (k * 3)) [.int .u32 e.p.a, .int .i64 e.p.n, .int .i64 e.v] := hce.ext x6
    have c1 : decide (e.p.n < 0) = false := decide_eq_false (by omega)
    have c2 : decide ((32 : Int) < e.p.n) = false := decide_eq_false (by omega)
    have c3 : decide (e.v < 0) = false := decide_eq_false (by omega)
    have hea : e.p.a < 4294967296 := by omega
    repeat (first | refine Vx ?_ | (apply Ops_q; (case hon => exact Va); (case hd => rfl); (case hq => exact YlA)) | refine Vr ?_ | refine Vt ?_ | refine Vf ?_ | refine Vm ?_ | refine Ve ?_ | refine Vo ?_ | refine Vz ?_ | refine Vn ?_)
    (apply Ops_q; (case hon => (exact Va)); (case hd => rfl); (case hq => exact Yl_indexS (j := k) rfl rfl (by omega)))
    repeat (first | refine Vx ?_ | (apply Ops_q; (case hon => exact Va); (case hd => rfl); (case hq => exact YlA)) | refine Vr ?_ | refine Vt ?_ | refine Vf ?_ | refine Vm ?_ | refine Ve ?_ | refine Vo ?_ | refine Vz ?_ | refine Vn ?_)
    (refine Ops_alloc (by exact Va) rfl ?_; intro w7 b8 n_b8; have k_b8 := n_b8.blk)
    repeat (first | refine Vx ?_ | (apply Ops_q; (case hon => exact Va); (case hd => rfl); (case hq => exact YlA)) | refine Vr ?_ | refine Vt ?_ | refine Vf ?_ | refine Vm ?_ | refine Ve ?_ | refine Vo ?_ | refine Vz ?_ | refine Vn ?_)
    (refine Ops_store (by exact Va) rfl rfl (by assumption) (by first | rfl | exact OneAll.h) ?_; intro w8 u_w8; have k_b8 := u_w8.blk)
    have y8 : Ext w6 w8 := u_w8.below n_b8.ext n_b8.ge
    have x8 := x6.trans y8
    clear u_w8 n_b8
    repeat (first | refine Vx ?_ | (apply Ops_q; (case hon => exact Va); (case hd => rfl); (case hq => exact YlA)) | refine Vr ?_ | refine Vt ?_ | refine Vf ?_ | refine Vm ?_ | refine Ve ?_ | refine Vo ?_ | refine Vz ?_ | refine Vn ?_)
    refine Ops_know rfl rfl c1 ?_
    repeat (first | refine Vx ?_ | (apply Ops_q; (case hon => exact Va); (case hd => rfl); (case hq => exact YlA)) | refine Vr ?_ | refine Vt ?_ | refine Vf ?_ | refine Vm ?_ | refine Ve ?_ | refine Vo ?_ | refine Vz ?_ | refine Vn ?_)
    refine Ops_know rfl rfl c2 ?_
    repeat (first | refine Vx ?_ | (apply Ops_q; (case hon => exact Va); (case hd => rfl); (case hq => exact YlA)) | refine Vr ?_ | refine Vt ?_ | refine Vf ?_ | refine Vm ?_ | refine Ve ?_ | refine Vo ?_ | refine Vz ?_ | refine Vn ?_)
    refine Ops_know rfl rfl c3 ?_
    repeat (first | refine Vx ?_ | (apply Ops_q; (case hon => exact Va); (case hd => rfl); (case hq => exact YlA)) | refine Vr ?_ | refine Vt ?_ | refine Vf ?_ | refine Vm ?_ | refine Ve ?_ | refine Vo ?_ | refine Vz ?_ | refine Vn ?_)
    rcases Nat.eq_zero_or_pos k with rfl | hkp
    · have c4 : decide ((0 : Int) < ((0 : Nat) : Int)) = false := rfl
      repeat (first | refine Vx ?_ | (apply Ops_q; (case hon => exact Va); (case hd => rfl); (case hq => exact YlA)) | refine Vr ?_ | refine Vt ?_ | refine Vf ?_ | refine Vm ?_ | refine Ve ?_ | refine Vo ?_ | refine Vz ?_ | refine Vn ?_)
      exact ⟨0 + 1, (by repeat (first | exact trivial | refine ⟨rfl, ?_⟩)), ⟨x8, hkl⟩, by omega⟩
    · have c4 : decide ((0 : Int) < (k : Int)) = true := decide_eq_true (by omega)
      obtain ⟨e', he'⟩ : ∃ e, t[k - 1]? = some e := ⟨_, List.getElem?_eq_getElem (by omega)⟩
      obtain ⟨hv', _, _, _, hl32', hal'⟩ := hok e' (List.mem_of_getElem? he')
      obtain ⟨j, hj, hj32, hjl⟩ := last_shl hv'
      obtain ⟨ad', eA, hce'⟩ := hE.at he'
      cases eA
      have hce8 : Cells w8 (ad.add ((k - 1) * 3)) [.int .u32 e'.p.a, .int .i64 e'.p.n, .int .i64 e'.v] := hce'.ext x8
      have hcA : w8.cell? (((ad.add ((k - 1) * 3)).add 0).add 0) = some (.int .u32 e'.p.a) := by
        have := hce8 0 _ rfl
        rw [add_add, add_add, Nat.add_zero] at *; exact this
      have hcB : w8.cell? (((ad.add ((k - 1) * 3)).add 0).add 1) = some (.int .i64 e'.p.n) := by
        have := hce8 1 _ rfl
        rw [add_add (ad.add ((k - 1) * 3)) 0 1]; exact this
      have hea' : e'.p.a < 4294967296 := by omega
      have hlt : e'.p.last < e.p.a := by
        obtain ⟨h1, rfl⟩ := List.getElem?_eq_some_iff.1 he'
        obtain ⟨h2, rfl⟩ := List.getElem?_eq_some_iff.1 he
        exact List.pairwise_iff_getElem.1 hsrt _ _ h1 h2 (by omega)
      have ek : (k : Int) - 1 = ((k - 1 : Nat) : Int) := by omega
      have hk1 : k - 1 < t.length := by omega
      have es : (32 : Int) - e'.p.n = (j : Int) := by omega
      have hp2 : 0 < 2 ^ j := Nat.two_pow_pos j
      have e2 : (1 : Int) * 2 ^ ((32 : Int) - e'.p.n).toNat = ((2 ^ j : Nat) : Int) := by rw [es, Int.toNat_natCast, Int.one_mul]; simp
      have i1 : InK .u64 ((1 : Int) * 2 ^ ((32 : Int) - e'.p.n).toNat) := by rw [e2]; simp only [InK]; omega
      have i2 : InK .u64 ((e'.p.a : Int) + (1 : Int) * 2 ^ ((32 : Int) - e'.p.n).toNat) := by rw [e2]; simp only [InK]; omega
      have hj0 : 0 ≤ (32 : Int) - e'.p.n ∧ (32 : Int) - e'.p.n ≤ 64 := by omega
      have c5 : decide ((e.p.a : Int) < (e'.p.a : Int) + (1 : Int) * 2 ^ ((32 : Int) - e'.p.n).toNat) = false := by
        rw [e2]; exact decide_eq_false (by omega)
      refine Ops_know rfl rfl c4 ?_
      repeat (first | refine Vx ?_ | (apply Ops_q; (case hon => exact Va); (case hd => rfl); (case hq => exact YlA)) | refine Vr ?_ | refine Vt ?_ | refine Vf ?_ | refine Vm ?_ | refine Ve ?_ | refine Vo ?_ | refine Vz ?_ | refine Vn ?_)
      rw [ek]
      (apply Ops_q; (case hon => (exact Va)); (case hd => rfl); (case hq => exact Yl_indexS (j := k - 1) rfl rfl (by omega)))
      repeat (first | refine Vx ?_ | (apply Ops_q; (case hon => exact Va); (case hd => rfl); (case hq => exact YlA)) | refine Vr ?_ | refine Vt ?_ | refine Vf ?_ | refine Vm ?_ | refine Ve ?_ | refine Vo ?_ | refine Vz ?_ | refine Vn ?_)
      rw [ek]
      (apply Ops_q; (case hon => (exact Va)); (case hd => rfl); (case hq => exact Yl_indexS (j := k - 1) rfl rfl (by omega)))
      repeat (first | refine Vx ?_ | (apply Ops_q; (case hon => exact Va); (case hd => rfl); (case hq => exact YlA)) | refine Vr ?_ | refine Vt ?_ | refine Vf ?_ | refine Vm ?_ | refine Ve ?_ | refine Vo ?_ | refine Vz ?_ | refine Vn ?_)
      refine V_no rfl c5 ?_
      repeat (first | refine Vx ?_ | (apply Ops_q; (case hon => exact Va); (case hd => rfl); (case hq => exact YlA)) | refine Vr ?_ | refine Vt ?_ | refine Vf ?_ | refine Vm ?_ | refine Ve ?_ | refine Vo ?_ | refine Vz ?_ | refine Vn ?_)
      exact ⟨k + 1, (by repeat (first | exact trivial | refine ⟨rfl, ?_⟩)), ⟨x8, hkl⟩, by omega⟩
  · obtain rfl : k = t.length := by have := of_decide_eq_false hgd; omega
    have hta : ∀ e ∈ t, e.p.a < 4294967296 := fun e he => by have := hok e he; omega
    have hchk : chk t = 0 := chk_iff.2 ⟨htn, htb⟩
    have hE6 := hE.ext x6
    have x6w := x5.trans x6
    replace hN := hN.ext x6
    replace hL := hL.ext x6
    replace k_b3 := k_b3.ext x6
    have hsam : samT T t = true := by
      rw [samT]
      exact decide_eq_true ⟨h0, hchk, (dif_none (chk_iff.1 h0).2 htb ha hta).2 (fun a h => (hlkt a h).symm)⟩
    repeat (first | refine Vx ?_ | (apply Ops_q; (case hon => exact Va); (case hd => rfl); (case hq => exact YlA)) | refine Vr ?_ | refine Vt ?_ | refine Vf ?_ | refine Vm ?_ | refine Ve ?_ | refine Vo ?_ | refine Vz ?_ | refine Vn ?_)
    (refine Ops_callR (by exact Va) rfl rfl (fun w_ e_ => build_v bt t ct w_ (hE6.ext e_) hta htn6) ?_; intro v7 w7 w0_ e0_ e1_ r_v7; have e_w7 := e0_.trans e1_; have b_v7 := e0_.size; clear e0_ e1_)
    obtain ⟨aM, aK, M, K, cM, cK, rfl, hB, hM, hK⟩ := r_v7
    have hcM : IsCf (lk t) M K := by
      rcases hB with ⟨_, h⟩ | ⟨h, _⟩
      · exact h
      · exact absurd hchk h
    obtain ⟨rfl, rfl⟩ := isCf_unique hcf (isCf_congr hlkt hcM)
    rw [hchk]
    replace hN := hN.ext e_w7
    replace hL := hL.ext e_w7
    replace k_b3 := k_b3.ext e_w7
    have x7 := x6w.trans e_w7
    have hE7 := hE6.ext e_w7
    clear hB b_v7 e_w7 x6w hE6
    repeat (first | refine Vx ?_ | (apply Ops_q; (case hon => exact Va); (case hd => rfl); (case hq => exact YlA)) | refine Vr ?_ | refine Vt ?_ | refine Vf ?_ | refine Vm ?_ | refine Ve ?_ | refine Vo ?_ | refine Vz ?_ | refine Vn ?_)
    (refine Ops_alloc (by exact Va) rfl ?_; intro w8 b9 n_b9; have k_b9 := n_b9.blk)
    repeat (first | refine Vx ?_ | (apply Ops_q; (case hon => exact Va); (case hd => rfl); (case hq => exact YlA)) | refine Vr ?_ | refine Vt ?_ | refine Vf ?_ | refine Vm ?_ | refine Ve ?_ | refine Vo ?_ | refine Vz ?_ | refine Vn ?_)
    (refine Ops_store (by exact Va) rfl rfl (by assumption) (by first | rfl | exact OneAll.h) ?_; intro w9 u_w9; have k_b9 := u_w9.blk)
    have y9 : Ext w7 w9 := u_w9.below n_b9.ext n_b9.ge
    have x9 := x7.trans y9
    replace hN := hN.ext y9
    replace hL := hL.ext y9
    replace hM := hM.ext y9
    replace hK := hK.ext y9
    replace k_b3 := k_b3.ext y9
    have hE9 := hE7.ext y9
    have hT9 := hT.ext x9
    clear u_w9 n_b9 y9 x7
    repeat (first | refine Vx ?_ | (apply Ops_q; (case hon => exact Va); (case hd => rfl); (case hq => exact YlA)) | refine Vr ?_ | refine Vt ?_ | refine Vf ?_ | refine Vm ?_ | refine Ve ?_ | refine Vo ?_ | refine Vz ?_ | refine Vn ?_)
    (apply Ops_q; (case hon => (exact Va)); (case hd => rfl); (case hq => exact Yl_call rfl (fun w_ e_ => awake8_v w_)))
    repeat (first | refine Vx ?_ | (apply Ops_q; (case hon => exact Va); (case hd => rfl); (case hq => exact YlA)) | refine Vr ?_ | refine Vt ?_ | refine Vf ?_ | refine Vm ?_ | refine Ve ?_ | refine Vo ?_ | refine Vz ?_ | refine Vn ?_)
    (apply Ops_q; (case hon => (exact Va)); (case hd => rfl); (case hq => exact Yl_call rfl (fun w_ e_ => sameR_v ao bt T t c ct w_ (hT9.ext e_) ha hn hz (hE9.ext e_) hta htn6 hzt)))
    rw [hsam]
    repeat (first | refine Vx ?_ | (apply Ops_q; (case hon => exact Va); (case hd => rfl); (case hq => exact YlA)) | refine Vr ?_ | refine Vt ?_ | refine Vf ?_ | refine Vm ?_ | refine Ve ?_ | refine Vo ?_ | refine Vz ?_ | refine Vn ?_)
    (apply Ops_q; (case hon => (exact Va)); (case hd => rfl); (case hq => exact Yl_call rfl (fun w_ e_ => sameL_v aN aM aL aK N N L L cN cM cL cK w_ (hN.ext e_) (hM.ext e_) (hL.ext e_) (hK.ext e_) (by omega) (by omega))))
    rw [decide_eq_true (show N = N ∧ L = L from ⟨rfl, rfl⟩)]
    repeat (first | refine Vx ?_ | (apply Ops_q; (case hon => exact Va); (case hd => rfl); (case hq => exact YlA)) | refine Vr ?_ | refine Vt ?_ | refine Vf ?_ | refine Vm ?_ | refine Ve ?_ | refine Vo ?_ | refine Vz ?_ | refine Vn ?_)
    refine ret1 (by first | exact .inl rfl | exact .inr rfl) rfl rfl ?_
    exact Ret_mk rfl x9
end Go.Proofs.Ytjpnaofoeeegeaa

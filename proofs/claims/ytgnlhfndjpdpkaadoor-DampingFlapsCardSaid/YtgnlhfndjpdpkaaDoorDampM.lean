/-
  Layer 42 (damping): plain laws: how the penalty falls with time, the time at which a route is used again.
  No conditions beyond those that each statement names.
-/
import Derived.Test.YtgnlhfndjpdpkaaDoorDampD
namespace Go.Proofs.YtgnlhfndjpdpkaaDoor
open Go.RowKit

theorem halves_eq : ∀ (n : Nat) (v : Int), halves n v = v / 2 ^ n
  | 0, v => by simp [halves]
  | n + 1, v => by
    simp only [halves, halves_eq n]
    rw [Int.ediv_ediv_of_nonneg (by omega), Int.pow_succ, Int.mul_comm]
theorem halves_step {n m : Nat} {v : Int} (h : n < m) (hv : 0 ≤ v) : halves m v ≤ halves n v / 2 := by
  obtain ⟨k, rfl⟩ : ∃ k, m = n + 1 + k := ⟨m - n - 1, by omega⟩
  have e : halves n v / 2 = halves (n + 1) v := by
    rw [halves_eq, halves_eq, Int.ediv_ediv_of_nonneg (Int.le_of_lt (Int.pow_pos (by omega))), Int.pow_succ]
  rw [e, halves_eq (n + 1 + k), Int.pow_add, ← Int.ediv_ediv_of_nonneg (Int.le_of_lt (Int.pow_pos (by omega))), ← halves_eq (n + 1), ← halves_eq k]
  exact (halves_le k _ (halves_le (n + 1) v hv).1).2
theorem part_le {u r H : Int} (hu : 0 ≤ u) (hr : 0 ≤ r ∧ r ≤ H) (hH : 1 ≤ H) : 0 ≤ u * r / (2 * H) ∧ u * r / (2 * H) ≤ u / 2 := by
  refine ⟨Int.ediv_nonneg (Int.mul_nonneg hu hr.1) (by omega), ?_⟩
  have h1 : u * r ≤ u * H := Int.mul_le_mul_of_nonneg_left hr.2 hu
  have h2 := Int.ediv_le_ediv (c := 2 * H) (by omega) h1
  rwa [Int.mul_ediv_mul_of_pos_left u 2 (by omega)] at h2
theorem aft_le {v H dt : Int} (hv : 0 ≤ v) (hH : 1 ≤ H) : 0 ≤ aftI v H dt ∧ aftI v H dt ≤ halves (min (dt / H) 64).toNat v ∧ halves (min (dt / H) 64).toNat v / 2 ≤ aftI v H dt := by
  have h1 := (halves_le (min (dt / H) 64).toNat v hv).1
  have h2 := part_le h1 ⟨Int.emod_nonneg dt (show H ≠ 0 by omega), Int.le_of_lt (Int.emod_lt_of_pos dt (show 0 < H by omega))⟩ hH
  simp only [aftI]; omega
theorem aft_mono {v H d1 d2 : Int} (hv : 0 ≤ v ∧ v ≤ 1310720000) (hH : 1 ≤ H) (h1 : 0 ≤ d1) (h : d1 ≤ d2) : aftI v H d2 ≤ aftI v H d1 := by
  have hq : d1 / H ≤ d2 / H := Int.ediv_le_ediv (by omega) h
  have hq0 : 0 ≤ d1 / H := Int.ediv_nonneg h1 (by omega)
  have l1 := aft_le (dt := d1) hv.1 hH
  have l2 := aft_le (dt := d2) hv.1 hH
  by_cases e : (min (d1 / H) 64).toNat = (min (d2 / H) 64).toNat
  · by_cases e2 : d1 / H = d2 / H
    · have hr : d1 % H ≤ d2 % H := by
        have := Int.mul_ediv_add_emod d1 H
        have := Int.mul_ediv_add_emod d2 H
        rw [e2] at *
        omega
      have hu := (halves_le (min (d2 / H) 64).toNat v hv.1).1
      have h3 := Int.ediv_le_ediv (c := 2 * H) (by omega) (Int.mul_le_mul_of_nonneg_left hr hu)
      simp only [aftI, e]; omega
    · have e3 : (min (d2 / H) 64).toNat = 64 := by omega
      have e4 : halves 64 v = 0 := by
        rw [halves_eq]; exact Int.ediv_eq_zero_of_lt hv.1 (by omega)
      rw [e3, e4] at l2; omega
  · have := halves_step (n := (min (d1 / H) 64).toNat) (m := (min (d2 / H) 64).toNat) (by omega) hv.1
    omega
theorem aft_max {p H R S M : Int} (h : OkC H R S M) : aftI (clampI p H R M) H M ≤ R := by
  have hc := ceil_le h
  have hcl := clamp_in (p := p) h
  obtain ⟨h1, h2, h3, h4, h5, h6, h7, h8⟩ := h
  have hq : M / H ≤ 16 := by
    have := Int.ediv_le_ediv (c := H) (by omega) h8
    rwa [Int.mul_ediv_cancel _ (by omega)] at this
  have l := (aft_le (dt := M) hcl.1 h1).2.1
  have e : (min (M / H) 64).toNat = (M / H).toNat := by omega
  rw [e, halves_eq] at l
  have h9 : clampI p H R M ≤ R * 2 ^ (M / H).toNat := by unfold clampI; unfold ceilI; omega
  have := Int.ediv_le_ediv (c := 2 ^ (M / H).toNat) (Int.pow_pos (by omega)) h9
  rw [Int.mul_ediv_cancel _ (by have := Int.pow_pos (n := 2) (m := (M / H).toNat) (by omega); omega)] at this
  omega

/-- The least number of seconds, less one, after which the penalty is at most the limit. -/
def lst (p H R M : Int) : Nat := (List.range (M + 1).toNat).findIdx fun i : Nat => decide (aftI (clampI p H R M) H ((i : Int) + 1) ≤ R)
theorem lst_char {p H R S M : Int} (h : OkC H R S M) : (lst p H R M : Int) + 1 ≤ M ∧ ∀ d : Int, 1 ≤ d → (aftI (clampI p H R M) H d ≤ R ↔ (lst p H R M : Int) + 1 ≤ d) := by
  have hcl := clamp_in (p := p) h
  have hm := aft_max (p := p) h
  have h1 := h.1
  have h7 := h.2.2.2.2.2.2.1
  have hq : ∀ i, i < lst p H R M → ¬ aftI (clampI p H R M) H ((i : Int) + 1) ≤ R := fun i hi => by
    have := List.not_of_lt_findIdx (p := fun i : Nat => decide (aftI (clampI p H R M) H ((i : Int) + 1) ≤ R)) (xs := List.range (M + 1).toNat) hi
    simpa using this
  have hlt : (lst p H R M : Int) + 1 ≤ M := by
    rcases Int.lt_or_le (M - 1) (lst p H R M : Int) with h2 | h2
    · have := hq (M - 1).toNat (by omega)
      rw [show (((M - 1).toNat : Nat) : Int) + 1 = M by omega] at this
      exact absurd hm this
    · omega
  have hyes : aftI (clampI p H R M) H ((lst p H R M : Int) + 1) ≤ R := by
    have hl : lst p H R M < (List.range (M + 1).toNat).length := by simp; omega
    have key : ∀ (k : Nat) (hk : k < (List.range (M + 1).toNat).length), (List.range (M + 1).toNat)[k]'hk = k := fun k hk => by simp
    have t : (fun i : Nat => decide (aftI (clampI p H R M) H ((i : Int) + 1) ≤ R)) ((List.range (M + 1).toNat)[lst p H R M]'hl) = true :=
      List.findIdx_getElem (xs := List.range (M + 1).toNat) (p := fun i : Nat => decide (aftI (clampI p H R M) H ((i : Int) + 1) ≤ R)) (w := hl)
    exact of_decide_eq_true ((congrArg (fun i : Nat => decide (aftI (clampI p H R M) H ((i : Int) + 1) ≤ R)) (key _ hl)).symm.trans t)
  refine ⟨hlt, fun d hd => ⟨fun hle => ?_, fun hle => ?_⟩⟩
  · rcases Int.lt_or_le d ((lst p H R M : Int) + 1) with h2 | h2
    · have := hq (d - 1).toNat (by omega)
      rw [show (((d - 1).toNat : Nat) : Int) + 1 = d by omega] at this
      exact absurd hle this
    · exact h2
  · have := aft_mono hcl h1 (show (0 : Int) ≤ (lst p H R M : Int) + 1 by omega) hle
    omega
end Go.Proofs.YtgnlhfndjpdpkaaDoor

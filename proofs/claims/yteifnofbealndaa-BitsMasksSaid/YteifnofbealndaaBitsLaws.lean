/-
  The five statements about the package bits, as walks of the law functions: each returns true for every input.
  No conditions.
-/
import Derived.Test.YteifnofbealndaaBitsWalks
import Derived.OpenShut
namespace Go.Proofs.Yteifnofbealndaa
open Go.RowKit

theorem nat_of_u32 {a : Int} (h : (Lit.int .u32 a).wf = true) : ∃ n : Nat, a = n ∧ n < 4294967296 := by
  have := bounds_u32 h
  exact ⟨a.toNat, by omega, by omega⟩
theorem nat_of_u64 {a : Int} (h : (Lit.int .u64 a).wf = true) : ∃ n : Nat, a = n ∧ n < 18446744073709551616 := by
  have := bounds_u64 h
  exact ⟨a.toNat, by omega, by omega⟩

theorem bitsLives (w : World) :
    Calls Try.prog 14 #[] w fun e w' => e = .returned (.bool true) ∧ w = w' := by
  have e1 : ((maskN (lowN 8 32) : Nat) : Int) = 4278190080 := by decide
  have e2 : ((top 4294967295 (lowN 1 32) : Nat) : Int) = 2147483648 := by decide
  have e3 : ((bitAt 1 31 : Nat) : Int) = 1 := by decide
  have e4 : ((commonN 0 1 : Nat) : Int) = 31 := by decide
  have e5 : ((rankN 255 64 : Nat) : Int) = 8 := by decide
  have e6 : ((leadN 1 : Nat) : Int) = 31 := by decide
  have e7 : ((trailN 8 : Nat) : Int) = 3 := by decide
  have e8 : ((rankN 255 (lowN 4 64) : Nat) : Int) = 4 := by decide
  have c1 := fun w => (bitsMask 8 w).mono (fun _ _ ⟨he, hw⟩ => ⟨he.trans (ret_int e1), hw⟩ : ∀ e w', _ → e = .returned (.int .u32 4278190080) ∧ w = w')
  have c2 := fun w => (bitsKeep 4294967295 1 w (by omega)).mono (fun _ _ ⟨he, hw⟩ => ⟨he.trans (ret_int e2), hw⟩ : ∀ e w', _ → e = .returned (.int .u32 2147483648) ∧ w = w')
  have c3 := fun w => (bitsAt 1 31 w (by omega)).mono (fun _ _ ⟨he, hw⟩ => ⟨he.trans (ret_int e3), hw⟩ : ∀ e w', _ → e = .returned (.int .i64 1) ∧ w = w')
  have c4 := fun w => (bitsCommon 0 1 w (by omega) (by omega)).mono (fun _ _ ⟨he, hw⟩ => ⟨he.trans (ret_int e4), hw⟩ : ∀ e w', _ → e = .returned (.int .i64 31) ∧ w = w')
  have c5 := fun w => (bitsOnes 255 w (by omega)).mono (fun _ _ ⟨he, hw⟩ => ⟨he.trans (ret_int e5), hw⟩ : ∀ e w', _ → e = .returned (.int .i64 8) ∧ w = w')
  have c6 := fun w => (bitsLead 1 w (by omega)).mono (fun _ _ ⟨he, hw⟩ => ⟨he.trans (ret_int e6), hw⟩ : ∀ e w', _ → e = .returned (.int .i64 31) ∧ w = w')
  have c7 := fun w => (bitsTrail 8 w (by omega)).mono (fun _ _ ⟨he, hw⟩ => ⟨he.trans (ret_int e7), hw⟩ : ∀ e w', _ → e = .returned (.int .i64 3) ∧ w = w')
  have c8 := fun w => (bitsRank 255 4 w (by omega)).mono (fun _ _ ⟨he, hw⟩ => ⟨he.trans (ret_int e8), hw⟩ : ∀ e w', _ → e = .returned (.int .i64 4) ∧ w = w')
  clear e1 e2 e3 e4 e5 e6 e7 e8
  have c1 := Lib.hid c1; have c2 := Lib.hid c2; have c3 := Lib.hid c3; have c4 := Lib.hid c4
  have c5 := Lib.hid c5; have c6 := Lib.hid c6; have c7 := Lib.hid c7; have c8 := Lib.hid c8
  go_enter Try.func14, Try.ntmps14
  go_wp2_with (first | (go_at_call 8; refine (c1.out _).mono ?_; rintro e w' ⟨rfl, rfl⟩) | (go_at_call 10; refine (c2.out _).mono ?_; rintro e w' ⟨rfl, rfl⟩) | (go_at_call 12; refine (c3.out _).mono ?_; rintro e w' ⟨rfl, rfl⟩) | (go_at_call 15; refine (c4.out _).mono ?_; rintro e w' ⟨rfl, rfl⟩) | (go_at_call 17; refine (c5.out _).mono ?_; rintro e w' ⟨rfl, rfl⟩) | (go_at_call 19; refine (c6.out _).mono ?_; rintro e w' ⟨rfl, rfl⟩) | (go_at_call 21; refine (c7.out _).mono ?_; rintro e w' ⟨rfl, rfl⟩) | (go_at_call 23; refine (c8.out _).mono ?_; rintro e w' ⟨rfl, rfl⟩))
  go_ret
  exact ⟨rfl, rfl⟩

theorem refRank64 (x : Nat) (w : World) (hx : x < 18446744073709551616) :
    Calls Try.prog 18 #[.int .u64 x, .int .i64 64] w fun e w' => e = .returned (.int .i64 (rankN x 64)) ∧ w = w' := refRank x 64 w hx

theorem law_BitsMasks (a0 a1 : Int) (w0 : (Lit.int .u32 a0).wf = true) (_w1 : (Lit.int .i64 a1).wf = true) (w : World) :
    Calls Try.prog 3 #[.int .u32 a0, .int .i64 a1] w fun e w' => e = .returned (.bool true) ∧ Grown w w' := by
  obtain ⟨x, rfl, hx⟩ := nat_of_u32 w0
  clear w0 _w1
  go_enter Try.func3, Try.ntmps3
  go_wp2_with (first | (go_at_call 8; refine (bitsMask _ _).mono ?_; rintro e w' ⟨rfl, rfl⟩) | (go_at_call 9; refine (refMask _ _).mono ?_; rintro e w' ⟨rfl, rfl⟩) | (go_at_call 10; refine (bitsKeep _ _ _ hx).mono ?_; rintro e w' ⟨rfl, rfl⟩) | (go_at_call 11; refine (refKeep _ _ _ hx).mono ?_; rintro e w' ⟨rfl, rfl⟩) | (go_at_call 12; refine (bitsAt _ _ _ hx).mono ?_; rintro e w' ⟨rfl, rfl⟩) | (go_at_call 13; refine (refAt _ _ _ hx).mono ?_; rintro e w' ⟨rfl, rfl⟩) | (go_at_call 14; refine (bitsLives _).mono ?_; rintro e w' ⟨rfl, rfl⟩))
  go_ret
  exact ⟨rfl, Grown.refl _⟩

theorem law_BitsCounts (a0 a1 a2 : Int) (w0 : (Lit.int .u32 a0).wf = true) (w1 : (Lit.int .u32 a1).wf = true) (w2 : (Lit.int .u64 a2).wf = true) (w : World) :
    Calls Try.prog 4 #[.int .u32 a0, .int .u32 a1, .int .u64 a2] w fun e w' => e = .returned (.bool true) ∧ Grown w w' := by
  obtain ⟨a, rfl, ha⟩ := nat_of_u32 w0
  obtain ⟨b, rfl, hb⟩ := nat_of_u32 w1
  obtain ⟨x, rfl, hx⟩ := nat_of_u64 w2
  clear w0 w1 w2
  go_enter Try.func4, Try.ntmps4
  go_wp2_with (first | (go_at_call 15; refine (bitsCommon _ _ _ ha hb).mono ?_; rintro e w' ⟨rfl, rfl⟩) | (go_at_call 16; refine (refCommon _ _ _ ha hb).mono ?_; rintro e w' ⟨rfl, rfl⟩) | (go_at_call 17; refine (bitsOnes _ _ hx).mono ?_; rintro e w' ⟨rfl, rfl⟩) | (go_at_call 18; refine (refRank64 _ _ hx).mono ?_; rintro e w' ⟨rfl, rfl⟩) | (go_at_call 19; refine (bitsLead _ _ ha).mono ?_; rintro e w' ⟨rfl, rfl⟩) | (go_at_call 20; refine (refLead _ _ ha).mono ?_; rintro e w' ⟨rfl, rfl⟩) | (go_at_call 21; refine (bitsTrail _ _ ha).mono ?_; rintro e w' ⟨rfl, rfl⟩) | (go_at_call 22; refine (refTrail _ _ ha).mono ?_; rintro e w' ⟨rfl, rfl⟩) | (go_at_call 14; refine (bitsLives _).mono ?_; rintro e w' ⟨rfl, rfl⟩))
  go_ret
  exact ⟨rfl, Grown.refl _⟩


theorem bitsRankK (x k : Nat) (w : World) (hx : x < 18446744073709551616) (hk : k ≤ 64) :
    Calls Try.prog 23 #[.int .u64 x, .int .i64 k] w fun e w' => e = .returned (.int .i64 (rankN x k)) ∧ w = w' :=
  (bitsRank x k w hx).mono fun _ _ ⟨he, hw⟩ => ⟨he.trans (ret_int (by rw [lowN_nat k 64 hk])), hw⟩
theorem bitsRankK1 (x k : Nat) (w : World) (hx : x < 18446744073709551616) (hk : k < 64) :
    Calls Try.prog 23 #[.int .u64 x, .int .i64 ((k : Int) + 1)] w fun e w' => e = .returned (.int .i64 (rankN x (k + 1))) ∧ w = w' :=
  bitsRankK x (k + 1) w hx (by omega)

theorem rank_diff (x k : Nat) (hx : x < 18446744073709551616) :
    (wrap64 (((rankN x (k + 1) : Nat) : Int) - (rankN x k : Nat)) == wrap64 (bits .and .u64 ((x : Int) / 2 ^ k) 1)) = true := by
  have := rankN_le x k
  have h2 := Nat.mod_two_eq_zero_or_one (x / 2 ^ k)
  rw [bit_val64 _ _ hx, bit_wrap, IntWalk.wrap64_in _ (by simp only [rankN]; omega)]; simp only [rankN, beq_iff_eq]; omega

theorem low_zero : lowN 0 64 = 0 := rfl
theorem low_full : lowN 64 64 = 64 := rfl

theorem law_BitsRanks (a0 a1 : Int) (w0 : (Lit.int .u64 a0).wf = true) (_w1 : (Lit.int .i64 a1).wf = true) (w : World) :
    Calls Try.prog 5 #[.int .u64 a0, .int .i64 a1] w fun e w' => e = .returned (.bool true) ∧ Grown w w' := by
  obtain ⟨x, rfl, hx⟩ := nat_of_u64 w0
  clear w0 _w1
  have l0 : rankN x (lowN 0 64) = 0 := rfl
  have l1 := low_full
  go_enter Try.func5, Try.ntmps5
  go_wp2_with (first | (go_at_call 23; refine (bitsRank _ _ _ hx).mono ?_; rintro e w' ⟨rfl, rfl⟩) | (go_at_call 18; refine (refRank _ _ _ hx).mono ?_; rintro e w' ⟨rfl, rfl⟩) | (go_at_call 17; refine (bitsOnes _ _ hx).mono ?_; rintro e w' ⟨rfl, rfl⟩))
  clear l0 l1
  go_loop [25] (fun j => ∃ k : Nat, k ≤ 64 ∧ j = .int .i64 k) (fun j => 64 - (intOf j).toNat)
  case atStart => exact ⟨0, Nat.zero_le _, rfl⟩
  case round =>
    obtain ⟨k, hk, rfl⟩ := hrel
    by_cases hlt : k < 64
    · have hd := rank_diff x k hx
      have hd2 : wrap64 (((rankN x (k + 1) : Nat) : Int) - (rankN x k : Nat)) = (rankN x (k + 1) : Nat) - (rankN x k : Nat) := by
        have h1 := rankN_le x k; have h2 := rankN_le x (k + 1); exact IntWalk.wrap64_in _ (by omega)
      rw [hd2] at hd
      go_wp2_with (go_at_call 23; first | ((with_reducible refine (bitsRankK1 _ _ _ hx hlt).mono ?_); rintro e w' ⟨rfl, rfl⟩) | ((with_reducible refine (bitsRankK _ _ _ hx hk).mono ?_); rintro e w' ⟨rfl, rfl⟩))
      go_round
      case rel => exact ⟨k + 1, by omega, by go_num⟩
      case measure => simp [intOf]; omega
    · go_wp2_with (go_at_call 14; refine (bitsLives _).mono ?_; rintro e w' ⟨rfl, rfl⟩)
      go_ret
      exact ⟨rfl, Grown.refl _⟩

theorem sum_step (x k : Nat) (hx : x < 4294967296) (hk : k < 32) :
    ((x : Int) / 2 ^ (32 - k) * 2 % 4294967296 + (bitAt x (k : Int) : Nat) % 4294967296) % 4294967296 = ((x / 2 ^ (32 - (k + 1)) : Nat) : Int) := by
  have h1 : x / 2 ^ (31 - k) ≤ x := Nat.div_le_self _ _
  have h2 := div_step x k hk
  rw [cast_div, bitAt_nat x k hk]
  have e : 32 - (k + 1) = 31 - k := by omega
  rw [e]
  omega

theorem law_BitsSum (a0 : Int) (w0 : (Lit.int .u32 a0).wf = true) (w : World) :
    Calls Try.prog 6 #[.int .u32 a0] w fun e w' => e = .returned (.bool true) ∧ Grown w w' := by
  obtain ⟨x, rfl, hx⟩ := nat_of_u32 w0
  clear w0
  go_enter Try.func6, Try.ntmps6
  go_wp2
  go_loop [3, 5] (fun y j => ∃ k : Nat, k ≤ 32 ∧ j = .int .i64 k ∧ y = .int .u32 ((x / 2 ^ (32 - k) : Nat) : Int)) (fun _ j => 32 - (intOf j).toNat)
  case atStart => exact ⟨0, Nat.zero_le _, rfl, by rw [Nat.div_eq_of_lt (by simpa using hx)]; rfl⟩
  case round =>
    obtain ⟨k, hk, rfl, rfl⟩ := hrel
    by_cases hlt : k < 32
    · have hs := Lib.hid (sum_step x k hx hlt)
      go_wp2_with (go_at_call 12; refine (bitsAt _ _ _ hx).mono ?_; rintro e w' ⟨rfl, rfl⟩)
      go_round
      case rel => exact ⟨k + 1, by omega, by go_num, by rw [← hs.out]⟩
      case measure => simp [intOf]; omega
    · obtain rfl : k = 32 := by omega
      clear hk hlt
      have e : x / 2 ^ (32 - 32) = x := by simp
      rw [e]
      clear e
      go_wp2_with (go_at_call 14; refine (bitsLives _).mono ?_; rintro e w' ⟨rfl, rfl⟩)
      go_ret
      exact ⟨rfl, Grown.refl _⟩

theorem bitsKeepK (x k : Nat) (w : World) (hx : x < 4294967296) (hk : k ≤ 32) :
    Calls Try.prog 10 #[.int .u32 x, .int .i64 k] w fun e w' => e = .returned (.int .u32 (top x k)) ∧ w = w' :=
  (bitsKeep x k w hx).mono fun _ _ ⟨he, hw⟩ => ⟨he.trans (ret_int (by rw [lowN_nat k 32 hk])), hw⟩

theorem law_BitsCommon (a0 a1 : Int) (w0 : (Lit.int .u32 a0).wf = true) (w1 : (Lit.int .u32 a1).wf = true) (w : World) :
    Calls Try.prog 7 #[.int .u32 a0, .int .u32 a1] w fun e w' => e = .returned (.bool true) ∧ Grown w w' := by
  obtain ⟨a, rfl, ha⟩ := nat_of_u32 w0
  obtain ⟨b, rfl, hb⟩ := nat_of_u32 w1
  clear w0 w1
  go_enter Try.func7, Try.ntmps7
  go_wp2
  go_loop [6] (fun j => ∃ k : Nat, k ≤ 33 ∧ j = .int .i64 k) (fun j => 33 - (intOf j).toNat)
  case atStart => exact ⟨0, Nat.zero_le _, rfl⟩
  case round =>
    obtain ⟨k, hk, rfl⟩ := hrel
    by_cases hlt : k < 33
    · have hc := top_common a b k ha hb (by omega)
      by_cases hle : k ≤ commonN a b
      · have h1 : ((top a k : Nat) == ((top b k : Nat) : Int)) = true := by rw [hc.2 hle]; simp
        clear hc
        go_wp2_with (first | (go_at_call 10; refine (bitsKeepK _ _ _ (by assumption) (by omega)).mono ?_; rintro e w' ⟨rfl, rfl⟩) | (go_at_call 15; refine (bitsCommon _ _ _ ha hb).mono ?_; rintro e w' ⟨rfl, rfl⟩))
        go_round
        case rel => exact ⟨k + 1, by omega, by go_num⟩
        case measure => simp [intOf]; omega
      · have h1 : ((top a k : Nat) == ((top b k : Nat) : Int)) = false := by
          have : top a k ≠ top b k := fun h => hle (hc.1 h)
          simp only [beq_eq_false_iff_ne, ne_eq]; omega
        clear hc
        go_wp2_with (first | (go_at_call 10; refine (bitsKeepK _ _ _ (by assumption) (by omega)).mono ?_; rintro e w' ⟨rfl, rfl⟩) | (go_at_call 15; refine (bitsCommon _ _ _ ha hb).mono ?_; rintro e w' ⟨rfl, rfl⟩))
        go_round
        case rel => exact ⟨k + 1, by omega, by go_num⟩
        case measure => simp [intOf]; omega
    · go_wp2_with (go_at_call 14; refine (bitsLives _).mono ?_; rintro e w' ⟨rfl, rfl⟩)
      go_ret
      exact ⟨rfl, Grown.refl _⟩
end Go.Proofs.Yteifnofbealndaa

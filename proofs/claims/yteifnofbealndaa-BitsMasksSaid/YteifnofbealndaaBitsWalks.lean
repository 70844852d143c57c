/-
  What the functions of the packages bits and routingref01 return, each for every word and number: said in the plain terms of the text BitsPlain.
  Conditions: words are natural numbers below 2^32 (2^64 for Rank), as Go's types have them.
-/
import Derived.Test.YteifnofbealndaaRows
import Derived.Test.YteifnofbealndaaBitsPlain
import Derived.WalkKit
import Derived.Lib.Hide
import Derived.WalkSpells
import Derived.WalkLawsBesides
namespace Go.Proofs.Yteifnofbealndaa
open Go.RowKit

theorem ret_int {k : IntKind} {a b : Int} (h : a = b) : Ending.returned (.int k a) = .returned (.int k b) := by rw [h]

theorem clamp_any (a b : Int) (w : World) :
    Calls Try.prog 24 #[.int .i64 a, .int .i64 b] w fun e w' => e = .returned (.int .i64 (min (max a 0) b)) ∧ w = w' := by
  go_enter Try.func24, Try.ntmps24
  go_wp2
  all_goals
    go_ret
    exact ⟨ret_int (by omega), rfl⟩


theorem cast_div (x n : Nat) : (x : Int) / 2 ^ n = ((x / 2 ^ n : Nat) : Int) := by
  rw [Int.natCast_ediv]; rfl

theorem bit_val (x n : Nat) (hx : x < 4294967296) : bits .and .u32 ((x : Int) / 2 ^ n) 1 = ((x / 2 ^ n % 2 : Nat) : Int) := by
  have h : x / 2 ^ n < 4294967296 := Nat.lt_of_le_of_lt (Nat.div_le_self _ _) hx
  rw [cast_div, show (1 : Int) = ((1 : Nat) : Int) from rfl, u32_and_nat _ _ h (by omega), nat_mask1]

theorem bit_val64 (x n : Nat) (hx : x < 18446744073709551616) : bits .and .u64 ((x : Int) / 2 ^ n) 1 = ((x / 2 ^ n % 2 : Nat) : Int) := by
  have h : x / 2 ^ n < 18446744073709551616 := Nat.lt_of_le_of_lt (Nat.div_le_self _ _) hx
  rw [cast_div, show (1 : Int) = ((1 : Nat) : Int) from rfl, u64_and_nat _ _ h (by omega), nat_mask1]

theorem bit_wrap (x n : Nat) : wrap64 (((x / 2 ^ n % 2 : Nat) : Int)) = ((x / 2 ^ n % 2 : Nat) : Int) := by
  have := Nat.mod_two_eq_zero_or_one (x / 2 ^ n)
  exact IntWalk.wrap64_in _ (by omega)

theorem at_eq (x : Nat) (i : Int) (hx : x < 4294967296) (h : 0 ≤ i ∧ i < 32) :
    wrap64 (bits .and .u32 ((x : Int) / 2 ^ (31 - i).toNat) 1) = ((bitAt x i : Nat) : Int) := by
  rw [bit_val _ _ hx, bit_wrap]; unfold bitAt; rw [if_pos h]
theorem at_out (x : Nat) (i : Int) (h : i < 0 ∨ 32 ≤ i) : (0 : Int) = ((bitAt x i : Nat) : Int) := by
  unfold bitAt; rw [if_neg (by omega)]; rfl

theorem bitsAt (x : Nat) (i : Int) (w : World) (hx : x < 4294967296) :
    Calls Try.prog 12 #[.int .u32 x, .int .i64 i] w fun e w' => e = .returned (.int .i64 (bitAt x i)) ∧ w = w' := by
  go_enter Try.func12, Try.ntmps12
  go_wp2
  all_goals
    go_ret
    exact ⟨ret_int (by first | exact at_eq x i hx (by omega) | exact at_out x i (by omega)), rfl⟩

theorem refAt (x : Nat) (i : Int) (w : World) (hx : x < 4294967296) :
    Calls Try.prog 13 #[.int .u32 x, .int .i64 i] w fun e w' => e = .returned (.int .i64 (bitAt x i)) ∧ w = w' := by
  go_enter Try.func13, Try.ntmps13
  go_wp2
  all_goals
    go_ret
    exact ⟨ret_int (by first | exact at_eq x i hx (by omega) | exact at_out x i (by omega)), rfl⟩

theorem refLow (a b : Int) (w : World) :
    Calls Try.prog 25 #[.int .i64 a, .int .i64 b] w fun e w' => e = .returned (.int .i64 (min (max a 0) b)) ∧ w = w' := by
  go_enter Try.func25, Try.ntmps25
  go_wp2
  all_goals
    go_ret
    exact ⟨ret_int (by omega), rfl⟩


theorem clamp32 (a : Int) (w : World) :
    Calls Try.prog 24 #[.int .i64 a, .int .i64 32] w fun e w' => e = .returned (.int .i64 (lowN a 32)) ∧ w = w' :=
  (clamp_any a 32 w).mono fun _ _ ⟨he, hw⟩ => ⟨he.trans (ret_int (lowN_cast a 32).symm), hw⟩
theorem clamp64 (a : Int) (w : World) :
    Calls Try.prog 24 #[.int .i64 a, .int .i64 64] w fun e w' => e = .returned (.int .i64 (lowN a 64)) ∧ w = w' :=
  (clamp_any a 64 w).mono fun _ _ ⟨he, hw⟩ => ⟨he.trans (ret_int (lowN_cast a 64).symm), hw⟩

theorem low32 (a : Int) (w : World) :
    Calls Try.prog 25 #[.int .i64 a, .int .i64 32] w fun e w' => e = .returned (.int .i64 (lowN a 32)) ∧ w = w' :=
  (refLow a 32 w).mono fun _ _ ⟨he, hw⟩ => ⟨he.trans (ret_int (lowN_cast a 32).symm), hw⟩
theorem low64 (a : Int) (w : World) :
    Calls Try.prog 25 #[.int .i64 a, .int .i64 64] w fun e w' => e = .returned (.int .i64 (lowN a 64)) ∧ w = w' :=
  (refLow a 64 w).mono fun _ _ ⟨he, hw⟩ => ⟨he.trans (ret_int (lowN_cast a 64).symm), hw⟩

theorem shl_mask (c : Nat) (hc : c ≤ 32) : 4294967295 * 2 ^ (32 - c) % 4294967296 = ((maskN c : Nat) : Int) := by
  have h1 : (4294967295 : Int) * 2 ^ (32 - c) % 4294967296 = ((4294967295 * 2 ^ (32 - c) % 4294967296 : Nat) : Int) := by simp
  rw [h1]
  congr 1
  unfold maskN
  have hp := Nat.two_pow_pos (32 - c)
  have hle : 2 ^ (32 - c) ≤ 2 ^ 32 := Nat.pow_le_pow_right (by omega) (by omega)
  generalize 2 ^ (32 - c) = p at *
  have e2 : 4294967295 * p = (4294967296 - p) + (p - 1) * 4294967296 := by omega
  rw [e2, Nat.add_mul_mod_self_right, Nat.mod_eq_of_lt (by omega)]

theorem bitsMask (n : Int) (w : World) :
    Calls Try.prog 8 #[.int .i64 n] w fun e w' => e = .returned (.int .u32 (maskN (lowN n 32))) ∧ w = w' := by
  have hle := lowN_le n 32
  go_enter Try.func8, Try.ntmps8
  go_wp2_with (go_at_call 24; refine (clamp32 _ _).mono ?_; rintro e w' ⟨rfl, rfl⟩)
  go_ret
  exact ⟨ret_int (shl_mask _ hle), rfl⟩

theorem and_mask (x c : Nat) (hx : x < 4294967296) (hc : c ≤ 32) : bits .and .u32 (x : Int) (maskN c : Nat) = ((top x c : Nat) : Int) := by
  rw [u32_and_nat _ _ hx (maskN_lt c), and_maskN x c hx hc]

theorem bitsKeep (x : Nat) (n : Int) (w : World) (hx : x < 4294967296) :
    Calls Try.prog 10 #[.int .u32 x, .int .i64 n] w fun e w' => e = .returned (.int .u32 (top x (lowN n 32))) ∧ w = w' := by
  have hle := lowN_le n 32
  go_enter Try.func10, Try.ntmps10
  go_wp2_with (go_at_call 8; refine (bitsMask _ _).mono ?_; rintro e w' ⟨rfl, rfl⟩)
  go_ret
  exact ⟨ret_int (and_mask _ _ hx hle), rfl⟩

theorem rank_step (x k : Nat) (hx : x < 18446744073709551616) (hk : k < 64) :
    wrap64 ((rankN x k : Nat) + wrap64 (bits .and .u64 ((x : Int) / 2 ^ k) 1)) = ((rankN x (k + 1) : Nat) : Int) := by
  have := rankN_le x k
  have h2 := Nat.mod_two_eq_zero_or_one (x / 2 ^ k)
  rw [bit_val64 _ _ hx, bit_wrap, IntWalk.wrap64_in _ (by omega)]; simp [rankN]

theorem bitsRank (x : Nat) (i : Int) (w : World) (hx : x < 18446744073709551616) :
    Calls Try.prog 23 #[.int .u64 x, .int .i64 i] w fun e w' => e = .returned (.int .i64 (rankN x (lowN i 64))) ∧ w = w' := by
  have hle := lowN_le i 64
  go_enter Try.func23, Try.ntmps23
  go_wp2_with (go_at_call 24; refine (clamp64 _ _).mono ?_; rintro e w' ⟨rfl, rfl⟩)
  go_loop [5, 9] (fun n j => ∃ k : Nat, k ≤ lowN i 64 ∧ j = .int .i64 k ∧ n = .int .i64 (rankN x k)) (fun _ j => 64 - (intOf j).toNat)
  case atStart => exact ⟨0, Nat.zero_le _, rfl, rfl⟩
  case round =>
    obtain ⟨k, hk, rfl, rfl⟩ := hrel
    by_cases hlt : k < lowN i 64
    · have hs := Lib.hid (rank_step x k hx (by omega))
      go_wp2
      go_round
      case rel => exact ⟨k + 1, by omega, by go_num, by rw [hs.out]⟩
      case measure => simp [intOf]; omega
    · go_wp2
      go_ret
      exact ⟨ret_int (by rw [show k = lowN i 64 by omega]), rfl⟩

theorem refRank (x : Nat) (i : Int) (w : World) (hx : x < 18446744073709551616) :
    Calls Try.prog 18 #[.int .u64 x, .int .i64 i] w fun e w' => e = .returned (.int .i64 (rankN x (lowN i 64))) ∧ w = w' := by
  have hle := lowN_le i 64
  go_enter Try.func18, Try.ntmps18
  go_wp2_with (go_at_call 25; refine (low64 _ _).mono ?_; rintro e w' ⟨rfl, rfl⟩)
  go_loop [5, 9] (fun n j => ∃ k : Nat, k ≤ lowN i 64 ∧ j = .int .i64 k ∧ n = .int .i64 (rankN x k)) (fun _ j => 64 - (intOf j).toNat)
  case atStart => exact ⟨0, Nat.zero_le _, rfl, rfl⟩
  case round =>
    obtain ⟨k, hk, rfl, rfl⟩ := hrel
    by_cases hlt : k < lowN i 64
    · have hs := Lib.hid (rank_step x k hx (by omega))
      go_wp2
      go_round
      case rel => exact ⟨k + 1, by omega, by go_num, by rw [hs.out]⟩
      case measure => simp [intOf]; omega
    · go_wp2
      go_ret
      exact ⟨ret_int (by rw [show k = lowN i 64 by omega]), rfl⟩

theorem bitsOnes (x : Nat) (w : World) (hx : x < 18446744073709551616) :
    Calls Try.prog 17 #[.int .u64 x] w fun e w' => e = .returned (.int .i64 (rankN x 64)) ∧ w = w' := by
  go_enter Try.func17, Try.ntmps17
  go_wp2_with (go_at_call 23; refine (bitsRank _ _ _ hx).mono ?_; rintro e w' ⟨rfl, rfl⟩)
  go_ret
  exact ⟨ret_int rfl, rfl⟩


theorem one_of {n : Nat} (h : ((n : Int) == 1) = true) : n = 1 := by
  have : (n : Int) = 1 := by simpa using h
  omega
theorem not_one {n : Nat} (h : ((n : Int) == 1) = false) : n ≠ 1 := by
  have : ¬ (n : Int) = 1 := by simpa using h
  omega

theorem lead_is {x k : Nat} (hk : k ≤ 32) (hb : ∀ i, i < k → bitAt x (i : Int) ≠ 1) (h : k < 32 → bitAt x (k : Int) = 1) : (k : Int) = leadN x := by
  unfold leadN
  rw [firstN_eq hk (fun j hj => by simpa using hb j hj) (fun h1 => by simpa using h h1)]

theorem bitsLead (x : Nat) (w : World) (hx : x < 4294967296) :
    Calls Try.prog 19 #[.int .u32 x] w fun e w' => e = .returned (.int .i64 (leadN x)) ∧ w = w' := by
  go_enter Try.func19, Try.ntmps19
  go_wp2
  go_loop [4] (fun j => ∃ k : Nat, k ≤ 32 ∧ j = .int .i64 k ∧ Hid (∀ i, i < k → bitAt x (i : Int) ≠ 1)) (fun j => 32 - (intOf j).toNat)
  case atStart => exact ⟨0, Nat.zero_le _, rfl, Lib.hid (fun i hi => absurd hi (by omega))⟩
  case round =>
    obtain ⟨k, hk, rfl, hb⟩ := hrel
    by_cases hlt : k < 32
    · go_wp2_with (go_at_call 12; refine (bitsAt _ _ _ hx).mono ?_; rintro e w' ⟨rfl, rfl⟩)
      · have h1 : ((bitAt x (k : Int) : Nat) == (1 : Int)) = true := by assumption
        go_ret
        exact ⟨ret_int (lead_is hk hb.out (fun _ => one_of h1)), rfl⟩
      · have h1 : ((bitAt x (k : Int) : Nat) == (1 : Int)) = false := by assumption
        go_round
        case rel => exact ⟨k + 1, by omega, by go_num, Lib.hid (fun i hi => by
          rcases Nat.lt_succ_iff_lt_or_eq.1 hi with h2 | h2
          · exact hb.out i h2
          · subst h2; exact not_one h1)⟩
        case measure => simp [intOf]; omega
    · go_wp2
      go_ret
      exact ⟨ret_int (by have e : k = 32 := by omega
                         subst e; exact lead_is hk hb.out (fun h => absurd h (by omega))), rfl⟩

theorem trail_is {x k : Nat} (hk : k ≤ 32) (hb : ∀ i, i < k → x / 2 ^ i % 2 ≠ 1) (h : k < 32 → x / 2 ^ k % 2 = 1) : (k : Int) = trailN x := by
  unfold trailN
  rw [firstN_eq hk (fun j hj => by simpa using hb j hj) (fun h1 => by simpa using h h1)]

theorem bitsTrail (x : Nat) (w : World) (hx : x < 4294967296) :
    Calls Try.prog 21 #[.int .u32 x] w fun e w' => e = .returned (.int .i64 (trailN x)) ∧ w = w' := by
  go_enter Try.func21, Try.ntmps21
  go_wp2
  go_loop [4] (fun j => ∃ k : Nat, k ≤ 32 ∧ j = .int .i64 k ∧ Hid (∀ i, i < k → x / 2 ^ i % 2 ≠ 1)) (fun j => 32 - (intOf j).toNat)
  case atStart => exact ⟨0, Nat.zero_le _, rfl, Lib.hid (fun i hi => absurd hi (by omega))⟩
  case round =>
    obtain ⟨k, hk, rfl, hb⟩ := hrel
    have hv := Lib.hid (bit_val x k hx)
    by_cases hlt : k < 32
    · go_wp2
      · have h1 : (bits .and .u32 ((x : Int) / 2 ^ k) 1 == 1) = true := by assumption
        rw [hv.out] at h1
        go_ret
        exact ⟨ret_int (trail_is hk hb.out (fun _ => one_of h1)), rfl⟩
      · have h1 : (bits .and .u32 ((x : Int) / 2 ^ k) 1 == 1) = false := by assumption
        rw [hv.out] at h1
        go_round
        case rel => exact ⟨k + 1, by omega, by go_num, Lib.hid (fun i hi => by
          rcases Nat.lt_succ_iff_lt_or_eq.1 hi with h2 | h2
          · exact hb.out i h2
          · subst h2; exact not_one h1)⟩
        case measure => simp [intOf]; omega
    · go_wp2
      go_ret
      exact ⟨ret_int (by have e : k = 32 := by omega
                         subst e; exact trail_is hk hb.out (fun h => absurd h (by omega))), rfl⟩

theorem xor_lt (a b : Nat) (ha : a < 4294967296) (hb : b < 4294967296) : a ^^^ b < 4294967296 := Nat.xor_lt_two_pow (n := 32) ha hb

theorem bitsCommon (a b : Nat) (w : World) (ha : a < 4294967296) (hb : b < 4294967296) :
    Calls Try.prog 15 #[.int .u32 a, .int .u32 b] w fun e w' => e = .returned (.int .i64 (commonN a b)) ∧ w = w' := by
  have hx := Lib.hid (u32_xor_nat a b ha hb)
  have hlt := xor_lt a b ha hb
  go_enter Try.func15, Try.ntmps15
  go_wp2_with (go_at_call 19; rw [hx.out]; refine (bitsLead _ _ hlt).mono ?_; rintro e w' ⟨rfl, rfl⟩)
  go_ret
  exact ⟨ret_int (by rw [lead_xor]), rfl⟩

theorem common_is {a b k : Nat} (hk : k ≤ 32) (hb : ∀ i, i < k → bitAt a (i : Int) = bitAt b (i : Int)) (h : k < 32 → bitAt a (k : Int) ≠ bitAt b (k : Int)) :
    (k : Int) = commonN a b := by
  unfold commonN
  rw [firstN_eq hk (fun j hj => by simpa using hb j hj) (fun h1 => by simpa using h h1)]

theorem eq_of {n m : Nat} (h : ((n : Int) == (m : Int)) = true) : n = m := by
  have : (n : Int) = m := by simpa using h
  omega
theorem ne_of {n m : Nat} (h : ((n : Int) == (m : Int)) = false) : n ≠ m := by
  have : ¬ (n : Int) = m := by simpa using h
  omega

theorem refCommon (a b : Nat) (w : World) (ha : a < 4294967296) (hb : b < 4294967296) :
    Calls Try.prog 16 #[.int .u32 a, .int .u32 b] w fun e w' => e = .returned (.int .i64 (commonN a b)) ∧ w = w' := by
  go_enter Try.func16, Try.ntmps16
  go_wp2
  go_loop [5] (fun j => ∃ k : Nat, k ≤ 32 ∧ j = .int .i64 k ∧ Hid (∀ i, i < k → bitAt a (i : Int) = bitAt b (i : Int))) (fun j => 32 - (intOf j).toNat)
  case atStart => exact ⟨0, Nat.zero_le _, rfl, Lib.hid (fun i hi => absurd hi (by omega))⟩
  case round =>
    obtain ⟨k, hk, rfl, hs⟩ := hrel
    by_cases hlt : k < 32
    · go_wp2_with (go_at_call 13; refine (refAt _ _ _ (by assumption)).mono ?_; rintro e w' ⟨rfl, rfl⟩)
      · have h1 : ((bitAt a (k : Int) : Nat) == ((bitAt b (k : Int) : Nat) : Int)) = true := by assumption
        go_round
        case rel => exact ⟨k + 1, by omega, by go_num, Lib.hid (fun i hi => by
          rcases Nat.lt_succ_iff_lt_or_eq.1 hi with h2 | h2
          · exact hs.out i h2
          · subst h2; exact eq_of h1)⟩
        case measure => simp [intOf]; omega
      · have h1 : ((bitAt a (k : Int) : Nat) == ((bitAt b (k : Int) : Nat) : Int)) = false := by assumption
        go_ret
        exact ⟨ret_int (common_is hk hs.out (fun _ => ne_of h1)), rfl⟩
    · go_wp2
      go_ret
      exact ⟨ret_int (by have e : k = 32 := by omega
                         subst e; exact common_is hk hs.out (fun h => absurd h (by omega))), rfl⟩

theorem refLead (x : Nat) (w : World) (hx : x < 4294967296) :
    Calls Try.prog 20 #[.int .u32 x] w fun e w' => e = .returned (.int .i64 (leadN x)) ∧ w = w' := by
  go_enter Try.func20, Try.ntmps20
  go_wp2_with (go_at_call 16; refine (refCommon x 0 _ hx (by omega)).mono ?_; rintro e w' ⟨rfl, rfl⟩)
  go_ret
  exact ⟨ret_int (by rw [lead_common]), rfl⟩

theorem rtrail_is {x k : Nat} (hk : k ≤ 32) (hb : ∀ i, i < k → bitAt x (31 - (i : Int)) = 0) (h : k < 32 → bitAt x (31 - (k : Int)) ≠ 0) : (k : Int) = trailN x := by
  rw [trail_ref]
  rw [firstN_eq hk (fun j hj => by simpa using hb j hj) (fun h1 => by simpa using h h1)]

theorem zero_of {n : Nat} (h : ((n : Int) == 0) = true) : n = 0 := by
  have : (n : Int) = 0 := by simpa using h
  omega
theorem not_zero {n : Nat} (h : ((n : Int) == 0) = false) : n ≠ 0 := by
  have : ¬ (n : Int) = 0 := by simpa using h
  omega

theorem refTrail (x : Nat) (w : World) (hx : x < 4294967296) :
    Calls Try.prog 22 #[.int .u32 x] w fun e w' => e = .returned (.int .i64 (trailN x)) ∧ w = w' := by
  go_enter Try.func22, Try.ntmps22
  go_wp2
  go_loop [3] (fun j => ∃ k : Nat, k ≤ 32 ∧ j = .int .i64 k ∧ Hid (∀ i, i < k → bitAt x (31 - (i : Int)) = 0)) (fun j => 32 - (intOf j).toNat)
  case atStart => exact ⟨0, Nat.zero_le _, rfl, Lib.hid (fun i hi => absurd hi (by omega))⟩
  case round =>
    obtain ⟨k, hk, rfl, hs⟩ := hrel
    by_cases hlt : k < 32
    · go_wp2_with (go_at_call 13; refine (refAt _ _ _ (by assumption)).mono ?_; rintro e w' ⟨rfl, rfl⟩)
      · have h1 : ((bitAt x (31 - (k : Int)) : Nat) == (0 : Int)) = true := by assumption
        go_round
        case rel => exact ⟨k + 1, by omega, by go_num, Lib.hid (fun i hi => by
          rcases Nat.lt_succ_iff_lt_or_eq.1 hi with h2 | h2
          · exact hs.out i h2
          · subst h2; exact zero_of h1)⟩
        case measure => simp [intOf]; omega
      · have h1 : ((bitAt x (31 - (k : Int)) : Nat) == (0 : Int)) = false := by assumption
        go_ret
        exact ⟨ret_int (rtrail_is hk hs.out (fun _ => not_zero h1)), rfl⟩
    · go_wp2
      go_ret
      exact ⟨ret_int (by have e : k = 32 := by omega
                         subst e; exact rtrail_is hk hs.out (fun h => absurd h (by omega))), rfl⟩

theorem pow_i (n : Nat) : ((2 : Int) ^ n) = ((2 ^ n : Nat) : Int) := by simp

theorem mask_step (k : Nat) (h : k < 32) :
    bits .or .u32 (maskN k : Nat) (2 ^ (31 - k) % 4294967296) = ((maskN (k + 1) : Nat) : Int) := by
  have hlt : 2 ^ (31 - k) < 4294967296 := Nat.lt_of_le_of_lt (Nat.pow_le_pow_right (by omega) (by omega)) (show 2 ^ 31 < 4294967296 by decide)
  have e : ((2 : Int) ^ (31 - k)) % 4294967296 = ((2 ^ (31 - k) : Nat) : Int) := by
    rw [pow_i]; generalize 2 ^ (31 - k) = p at *; omega
  rw [e, u32_or_nat _ _ (maskN_lt k) hlt, maskN_succ k h]

theorem top_lt (x c : Nat) (hx : x < 4294967296) : top x c < 4294967296 := Nat.lt_of_le_of_lt (top_le x c) hx

theorem keep_step (x k : Nat) (hx : x < 4294967296) (h : k < 32) :
    bits .or .u32 (top x k : Nat) ((bitAt x (k : Int) : Nat) * 2 ^ (31 - k) % 4294967296) = ((top x (k + 1) : Nat) : Int) := by
  have hb := bitAt_lt x (k : Int)
  have hlt : 2 ^ (31 - k) ≤ 2147483648 := Nat.pow_le_pow_right (n := 2) (j := 31) (by omega) (by omega)
  have h2 : bitAt x (k : Int) * 2 ^ (31 - k) < 4294967296 := by
    have := Nat.mul_le_mul (show bitAt x (k : Int) ≤ 1 by omega) hlt
    omega
  have e : ((bitAt x (k : Int) : Nat) : Int) * 2 ^ (31 - k) % 4294967296 = ((bitAt x (k : Int) * 2 ^ (31 - k) : Nat) : Int) := by
    rw [pow_i, ← Int.natCast_mul]; generalize bitAt x (k : Int) * 2 ^ (31 - k) = p at *; omega
  rw [e, u32_or_nat _ _ (top_lt x k hx) h2, top_succ x k h]

theorem refMask (n : Int) (w : World) :
    Calls Try.prog 9 #[.int .i64 n] w fun e w' => e = .returned (.int .u32 (maskN (lowN n 32))) ∧ w = w' := by
  have hle := lowN_le n 32
  go_enter Try.func9, Try.ntmps9
  go_wp2_with (go_at_call 25; refine (low32 _ _).mono ?_; rintro e w' ⟨rfl, rfl⟩)
  go_loop [3, 7] (fun y j => ∃ k : Nat, k ≤ lowN n 32 ∧ j = .int .i64 k ∧ y = .int .u32 (maskN k)) (fun _ j => 32 - (intOf j).toNat)
  case atStart => exact ⟨0, Nat.zero_le _, rfl, by rw [maskN_zero]; rfl⟩
  case round =>
    obtain ⟨k, hk, rfl, rfl⟩ := hrel
    by_cases hlt : k < lowN n 32
    · have hs := Lib.hid (mask_step k (by omega))
      go_wp2
      go_round
      case rel => exact ⟨k + 1, by omega, by go_num, by rw [← hs.out]⟩
      case measure => simp [intOf]; omega
    · go_wp2
      go_ret
      exact ⟨ret_int (by rw [show k = lowN n 32 by omega]), rfl⟩

theorem refKeep (x : Nat) (n : Int) (w : World) (hx : x < 4294967296) :
    Calls Try.prog 11 #[.int .u32 x, .int .i64 n] w fun e w' => e = .returned (.int .u32 (top x (lowN n 32))) ∧ w = w' := by
  have hle := lowN_le n 32
  go_enter Try.func11, Try.ntmps11
  go_wp2_with (go_at_call 25; refine (low32 _ _).mono ?_; rintro e w' ⟨rfl, rfl⟩)
  go_loop [5, 9] (fun y j => ∃ k : Nat, k ≤ lowN n 32 ∧ j = .int .i64 k ∧ y = .int .u32 (top x k)) (fun _ j => 32 - (intOf j).toNat)
  case atStart => exact ⟨0, Nat.zero_le _, rfl, by rw [top_zero x hx]; rfl⟩
  case round =>
    obtain ⟨k, hk, rfl, rfl⟩ := hrel
    by_cases hlt : k < lowN n 32
    · have hs := Lib.hid (keep_step x k hx (by omega))
      have hb := bitAt_lt x (k : Int)
      go_wp2_with (go_at_call 13; refine (refAt _ _ _ hx).mono ?_; rintro e w' ⟨rfl, rfl⟩)
      go_round
      case rel => exact ⟨k + 1, by omega, by go_num, by rw [← hs.out]⟩
      case measure => simp [intOf]; omega
    · go_wp2
      go_ret
      exact ⟨ret_int (by rw [show k = lowN n 32 by omega]), rfl⟩
end Go.Proofs.Yteifnofbealndaa

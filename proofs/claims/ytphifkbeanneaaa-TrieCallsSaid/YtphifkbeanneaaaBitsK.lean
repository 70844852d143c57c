/-
  What some functions of the packages bits and routingref01 return, each for every word and number: said in the plain terms of the text BitsPlain.
  Conditions: words are natural numbers below 2^32 (2^64 for Rank), as Go's types have them.
-/
import Derived.Test.YtphifkbeanneaaaVFacts
import Derived.Test.YtphifkbeanneaaaVMore
import Derived.Test.YtphifkbeanneaaaBitsPlain
import Derived.WalkKit
import Derived.Lib.Hide
import Derived.WalkSpells
import Derived.WalkLawsBesides
namespace Go.Proofs.Ytphifkbeanneaaa
open Go.RowKit

theorem ret_int {k : IntKind} {a b : Int} (h : a = b) : Ending.returned (.int k a) = .returned (.int k b) := by rw [h]

theorem clamp_any (a b : Int) (w : World) :
    Calls Try.prog 59 #[.int .i64 a, .int .i64 b] w fun e w' => e = .returned (.int .i64 (min (max a 0) b)) ∧ w = w' := by
  go_enter Try.func59, Try.ntmps59
  go_wp2
  all_goals
    go_ret
    exact ⟨ret_int (by omega), rfl⟩


theorem cast_div (x n : Nat) : (x : Int) / 2 ^ n = ((x / 2 ^ n : Nat) : Int) := by
  rw [Int.natCast_ediv]; rfl

theorem bit_val (x n : Nat) (hx : x < 4294967296) : bits .and .u32 ((x : Int) / 2 ^ n) 1 = ((x / 2 ^ n % 2 : Nat) : Int) := by
  have h : x / 2 ^ n < 4294967296 := Nat.lt_of_le_of_lt (Nat.div_le_self _ _) hx
  rw [cast_div, show (1 : Int) = ((1 : Nat) : Int) from rfl, u32_and_nat _ _ h (by omega), nat_mask1]

theorem bit_wrap (x n : Nat) : wrap64 (((x / 2 ^ n % 2 : Nat) : Int)) = ((x / 2 ^ n % 2 : Nat) : Int) := by
  have := Nat.mod_two_eq_zero_or_one (x / 2 ^ n)
  exact IntWalk.wrap64_in _ (by omega)

theorem at_eq (x : Nat) (i : Int) (hx : x < 4294967296) (h : 0 ≤ i ∧ i < 32) :
    wrap64 (bits .and .u32 ((x : Int) / 2 ^ (31 - i).toNat) 1) = ((bitAt x i : Nat) : Int) := by
  rw [bit_val _ _ hx, bit_wrap]; unfold bitAt; rw [if_pos h]
theorem at_out (x : Nat) (i : Int) (h : i < 0 ∨ 32 ≤ i) : (0 : Int) = ((bitAt x i : Nat) : Int) := by
  unfold bitAt; rw [if_neg (by omega)]; rfl

theorem bitsAt (x : Nat) (i : Int) (w : World) (hx : x < 4294967296) :
    Calls Try.prog 50 #[.int .u32 x, .int .i64 i] w fun e w' => e = .returned (.int .i64 (bitAt x i)) ∧ w = w' := by
  go_enter Try.func50, Try.ntmps50
  go_wp2
  all_goals
    go_ret
    exact ⟨ret_int (by first | exact at_eq x i hx (by omega) | exact at_out x i (by omega)), rfl⟩

theorem refAt (x : Nat) (i : Int) (w : World) (hx : x < 4294967296) :
    Calls Try.prog 58 #[.int .u32 x, .int .i64 i] w fun e w' => e = .returned (.int .i64 (bitAt x i)) ∧ w = w' := by
  go_enter Try.func58, Try.ntmps58
  go_wp2
  all_goals
    go_ret
    exact ⟨ret_int (by first | exact at_eq x i hx (by omega) | exact at_out x i (by omega)), rfl⟩

theorem refLow (a b : Int) (w : World) :
    Calls Try.prog 57 #[.int .i64 a, .int .i64 b] w fun e w' => e = .returned (.int .i64 (min (max a 0) b)) ∧ w = w' := by
  go_enter Try.func57, Try.ntmps57
  go_wp2
  all_goals
    go_ret
    exact ⟨ret_int (by omega), rfl⟩


theorem clamp32 (a : Int) (w : World) :
    Calls Try.prog 59 #[.int .i64 a, .int .i64 32] w fun e w' => e = .returned (.int .i64 (lowN a 32)) ∧ w = w' :=
  (clamp_any a 32 w).mono fun _ _ ⟨he, hw⟩ => ⟨he.trans (ret_int (lowN_cast a 32).symm), hw⟩
theorem low32 (a : Int) (w : World) :
    Calls Try.prog 57 #[.int .i64 a, .int .i64 32] w fun e w' => e = .returned (.int .i64 (lowN a 32)) ∧ w = w' :=
  (refLow a 32 w).mono fun _ _ ⟨he, hw⟩ => ⟨he.trans (ret_int (lowN_cast a 32).symm), hw⟩
theorem shl_mask (c : Nat) (hc : c ≤ 32) : 4294967295 * 2 ^ (32 - c) % 4294967296 = ((maskN c : Nat) : Int) := by
  have h1 : (4294967295 : Int) * 2 ^ (32 - c) % 4294967296 = ((4294967295 * 2 ^ (32 - c) % 4294967296 : Nat) : Int) := by simp
  rw [h1]
  congr 1
  unfold maskN
  have hp := Nat.two_pow_pos (32 - c)
  have hle : 2 ^ (32 - c) ≤ 2 ^ 32 := Nat.pow_le_pow_right (by omega) (by omega)
  generalize 2 ^ (32 - c) = p at *
  have e2 : 4294967295 * p = (4294967296 - p) + (p - 1) * 4294967296 := by omega
  rw [e2, Nat.add_mul_mod_self_right, Nat.mod_eq_of_lt (by omega)]

theorem bitsMask (n : Int) (w : World) :
    Calls Try.prog 55 #[.int .i64 n] w fun e w' => e = .returned (.int .u32 (maskN (lowN n 32))) ∧ w = w' := by
  have hle := lowN_le n 32
  go_enter Try.func55, Try.ntmps55
  go_wp2_with (go_at_call 59; refine (clamp32 _ _).mono ?_; rintro e w' ⟨rfl, rfl⟩)
  go_ret
  exact ⟨ret_int (shl_mask _ hle), rfl⟩

theorem and_mask (x c : Nat) (hx : x < 4294967296) (hc : c ≤ 32) : bits .and .u32 (x : Int) (maskN c : Nat) = ((top x c : Nat) : Int) := by
  rw [u32_and_nat _ _ hx (maskN_lt c), and_maskN x c hx hc]

theorem bitsKeep (x : Nat) (n : Int) (w : World) (hx : x < 4294967296) :
    Calls Try.prog 49 #[.int .u32 x, .int .i64 n] w fun e w' => e = .returned (.int .u32 (top x (lowN n 32))) ∧ w = w' := by
  have hle := lowN_le n 32
  go_enter Try.func49, Try.ntmps49
  go_wp2_with (go_at_call 55; refine (bitsMask _ _).mono ?_; rintro e w' ⟨rfl, rfl⟩)
  go_ret
  exact ⟨ret_int (and_mask _ _ hx hle), rfl⟩

theorem pow_i (n : Nat) : ((2 : Int) ^ n) = ((2 ^ n : Nat) : Int) := by simp

theorem mask_step (k : Nat) (h : k < 32) :
    bits .or .u32 (maskN k : Nat) (2 ^ (31 - k) % 4294967296) = ((maskN (k + 1) : Nat) : Int) := by
  have hlt : 2 ^ (31 - k) < 4294967296 := Nat.lt_of_le_of_lt (Nat.pow_le_pow_right (by omega) (by omega)) (show 2 ^ 31 < 4294967296 by decide)
  have e : ((2 : Int) ^ (31 - k)) % 4294967296 = ((2 ^ (31 - k) : Nat) : Int) := by
    rw [pow_i]; generalize 2 ^ (31 - k) = p at *; omega
  rw [e, u32_or_nat _ _ (maskN_lt k) hlt, maskN_succ k h]

theorem top_lt (x c : Nat) (hx : x < 4294967296) : top x c < 4294967296 := Nat.lt_of_le_of_lt (top_le x c) hx

theorem keep_step (x k : Nat) (hx : x < 4294967296) (h : k < 32) :
    bits .or .u32 (top x k : Nat) ((bitAt x (k : Int) : Nat) * 2 ^ (31 - k) % 4294967296) = ((top x (k + 1) : Nat) : Int) := by
  have hb := bitAt_lt x (k : Int)
  have hlt : 2 ^ (31 - k) ≤ 2147483648 := Nat.pow_le_pow_right (n := 2) (j := 31) (by omega) (by omega)
  have h2 : bitAt x (k : Int) * 2 ^ (31 - k) < 4294967296 := by
    have := Nat.mul_le_mul (show bitAt x (k : Int) ≤ 1 by omega) hlt
    omega
  have e : ((bitAt x (k : Int) : Nat) : Int) * 2 ^ (31 - k) % 4294967296 = ((bitAt x (k : Int) * 2 ^ (31 - k) : Nat) : Int) := by
    rw [pow_i, ← Int.natCast_mul]; generalize bitAt x (k : Int) * 2 ^ (31 - k) = p at *; omega
  rw [e, u32_or_nat _ _ (top_lt x k hx) h2, top_succ x k h]

theorem refKeep (x : Nat) (n : Int) (w : World) (hx : x < 4294967296) :
    Calls Try.prog 51 #[.int .u32 x, .int .i64 n] w fun e w' => e = .returned (.int .u32 (top x (lowN n 32))) ∧ w = w' := by
  have hle := lowN_le n 32
  go_enter Try.func51, Try.ntmps51
  go_wp2_with (go_at_call 57; refine (low32 _ _).mono ?_; rintro e w' ⟨rfl, rfl⟩)
  go_loop [5, 9] (fun y j => ∃ k : Nat, k ≤ lowN n 32 ∧ j = .int .i64 k ∧ y = .int .u32 (top x k)) (fun _ j => 32 - (intOf j).toNat)
  case atStart => exact ⟨0, Nat.zero_le _, rfl, by rw [top_zero x hx]; rfl⟩
  case round =>
    obtain ⟨k, hk, rfl, rfl⟩ := hrel
    by_cases hlt : k < lowN n 32
    · have hs := Lib.hid (keep_step x k hx (by omega))
      have hb := bitAt_lt x (k : Int)
      go_wp2_with (go_at_call 58; refine (refAt _ _ _ hx).mono ?_; rintro e w' ⟨rfl, rfl⟩)
      go_round
      case rel => exact ⟨k + 1, by omega, by go_num, by rw [← hs.out]⟩
      case measure => simp [intOf]; omega
    · go_wp2
      go_ret
      exact ⟨ret_int (by rw [show k = lowN n 32 by omega]), rfl⟩

theorem keepP_v (x : Nat) (n : Int) (w : World) (hx : x < 4294967296) : Calls Try.prog 49 #[.int .u32 x, .int .i64 n] w (Ret (.int .u32 (top x (lowN n 32))) w) :=
  (bitsKeep x n w hx).mono fun _ _ ⟨h1, h2⟩ => ⟨h1, h2 ▸ Ext.refl _⟩
theorem maskP_v (n : Int) (w : World) : Calls Try.prog 55 #[.int .i64 n] w (Ret (.int .u32 (maskN (lowN n 32))) w) :=
  (bitsMask n w).mono fun _ _ ⟨h1, h2⟩ => ⟨h1, h2 ▸ Ext.refl _⟩
theorem atP_v (x : Nat) (i : Int) (w : World) (hx : x < 4294967296) : Calls Try.prog 50 #[.int .u32 x, .int .i64 i] w (Ret (.int .i64 (bitAt x i)) w) :=
  (bitsAt x i w hx).mono fun _ _ ⟨h1, h2⟩ => ⟨h1, h2 ▸ Ext.refl _⟩
theorem keepR_v (x : Nat) (n : Int) (w : World) (hx : x < 4294967296) : Calls Try.prog 51 #[.int .u32 x, .int .i64 n] w (Ret (.int .u32 (top x (lowN n 32))) w) :=
  (refKeep x n w hx).mono fun _ _ ⟨h1, h2⟩ => ⟨h1, h2 ▸ Ext.refl _⟩
end Go.Proofs.Ytphifkbeanneaaa

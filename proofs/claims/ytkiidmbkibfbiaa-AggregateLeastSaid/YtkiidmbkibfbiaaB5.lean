/-
  Part 5 of the texts that the proofs of this seat share: rules of a walk, contracts of functions, plain facts. Each piece says below what it proves.
  No conditions beyond those that each lemma states.
-/
import Derived.Test.YtkiidmbkibfbiaaB4
import Derived.Laws.MakeOwn
import Derived.Deep.Slices
import Derived.Deep.Fields
import Derived.ChangeSame
import Derived.OpenShut
import Derived.Lib.SmallJoins
import Derived.ProofKit

/-
  Sets of addresses as intervals (the reference of layer 5): prefixes, Subtract.
  Conditions: the lists are not too long for a machine.
-/
namespace Go.Proofs.Ytkiidmbkibfbiaa
open Go.RowKit

/-- The length of the largest prefix that begins at lo and ends before hi, none longer than n bits. -/
def bigN (lo hi : Nat) : Nat → Nat
  | 0 => 0
  | n + 1 => if lo % 2 ^ (32 - n) = 0 ∧ lo + 2 ^ (32 - n) ≤ hi then bigN lo hi n else n + 1
theorem bigN_spec {lo hi : Nat} : ∀ (n : Nat), n ≤ 32 → lo + 2 ^ (32 - n) ≤ hi → bigN lo hi n ≤ n ∧ lo + 2 ^ (32 - bigN lo hi n) ≤ hi
  | 0, _, h => ⟨Nat.le_refl _, h⟩
  | n + 1, hn, h => by
    rw [bigN]
    split
    · rename_i h1
      have := bigN_spec n (by omega) h1.2
      exact ⟨by omega, this.2⟩
    · exact ⟨Nat.le_refl _, h⟩
def prefF : Nat → Nat → Nat → List Pf
  | 0, _, _ => []
  | f + 1, lo, hi => if lo < hi then ⟨lo, bigN lo hi 32⟩ :: prefF f (lo + 2 ^ (32 - bigN lo hi 32)) hi else []
theorem prefF_more : ∀ (f g lo hi : Nat), hi - lo ≤ f → hi - lo ≤ g → prefF f lo hi = prefF g lo hi
  | 0, 0, lo, hi, _, _ => rfl
  | 0, g + 1, lo, hi, h, _ => by rw [prefF, prefF, if_neg (by omega)]
  | f + 1, 0, lo, hi, _, h => by rw [prefF, prefF, if_neg (by omega)]
  | f + 1, g + 1, lo, hi, h1, h2 => by
    rw [prefF, prefF]
    split
    · have : 0 < 2 ^ (32 - bigN lo hi 32) := Nat.two_pow_pos _
      rw [prefF_more f g _ hi (by omega) (by omega)]
    · rfl
theorem prefF_len : ∀ (f lo hi : Nat), (prefF f lo hi).length ≤ f
  | 0, _, _ => Nat.le_refl _
  | f + 1, lo, hi => by
    rw [prefF]
    split
    · rw [List.length_cons]; have := prefF_len f (lo + 2 ^ (32 - bigN lo hi 32)) hi; omega
    · exact Nat.zero_le _
/-- The prefixes of an interval: each time the largest that begins at its least address. -/
def prefL (lo hi : Nat) : List Pf := prefF (hi - lo) lo hi
theorem prefL_nil {lo hi : Nat} (h : ¬lo < hi) : prefL lo hi = [] := by
  rw [prefL, show hi - lo = 0 by omega]; rfl
theorem prefL_step {lo hi : Nat} (h : lo < hi) : prefL lo hi = ⟨lo, bigN lo hi 32⟩ :: prefL (lo + 2 ^ (32 - bigN lo hi 32)) hi := by
  have h0 : 0 < 2 ^ (32 - bigN lo hi 32) := Nat.two_pow_pos _
  obtain ⟨f, hf⟩ : ∃ f, hi - lo = f + 1 := ⟨hi - lo - 1, by omega⟩
  rw [prefL, hf, prefF, if_pos h, prefL, prefF_more f (hi - (lo + 2 ^ (32 - bigN lo hi 32))) _ hi (by omega) (by omega)]
theorem prefL_len (lo hi : Nat) : (prefL lo hi).length ≤ hi - lo := prefF_len ..
def prefsL (L : List Sp) : List Pf := L.flatMap fun s => prefL s.1 s.2
theorem prefsL_snoc {L : List Sp} {k : Nat} {s : Sp} (h : L[k]? = some s) : prefsL (L.take (k + 1)) = prefsL (L.take k) ++ prefL s.1 s.2 := by
  unfold prefsL
  rw [List.take_add_one, h, Option.toList_some, List.flatMap_append]; simp
theorem prefsL_len {L : List Sp} (h : ∀ s ∈ L, s.2 ≤ 4294967296) : (prefsL L).length ≤ L.length * 4294967296 := by
  unfold prefsL
  induction L with
  | nil => simp
  | cons s L ih =>
    have ih := ih fun t ht => h t (List.mem_cons_of_mem _ ht)
    have h1 := prefL_len s.1 s.2
    have h2 := h s (List.mem_cons_self ..)
    rw [List.flatMap_cons, List.length_append, List.length_cons, Nat.succ_mul]
    omega
theorem prefsL_nil {L : List Sp} (h : ∀ s ∈ L, s.1 < s.2) : prefsL L = [] ↔ L = [] := by
  cases L with
  | nil => exact ⟨fun _ => rfl, fun _ => rfl⟩
  | cons s L =>
    refine ⟨fun h1 => ?_, fun h1 => nomatch h1⟩
    unfold prefsL at h1
    rw [List.flatMap_cons, prefL_step (h s (List.mem_cons_self ..)), List.cons_append] at h1
    cases h1
theorem roomP {m n : Nat} (h : m ≤ n * 4294967296) (hn : n ≤ 1000) : (m + 1) * 16 ≤ 140737488355328 := by
  have h1 : n * 4294967296 ≤ 1000 * 4294967296 := Nat.mul_le_mul_right _ hn
  have h2 : m + 1 ≤ 4294967296001 := by omega
  exact Nat.le_trans (Nat.mul_le_mul_right 16 h2) (by decide)
theorem pow_cast (a : Nat) : (1 : Int) * 2 ^ a = ((2 ^ a : Nat) : Int) := by rw [Int.one_mul]; simp
set_option maxHeartbeats 2000000 in
theorem prefixesR_v (ao : Option Addr) (L : List Sp) (c : Nat) (w : World) (hL : Arr w 2 ao (L.map spC)) (hB : ∀ s ∈ L, s.2 ≤ 4294967296) (hn : L.length ≤ 1000) :
    Calls Try.prog 75 #[.slice ao L.length c] w (Gives (fun r w' => Own w' w.heap.size 38 2 r ((prefsL L).map Pf.cells)) w) := by
  refine V_enter (vs := [_]) Try.func75 rfl Try.ntmps75 (Nat.le_of_ble_eq_true rfl) ?_
  repeat (first | refine Vx ?_ | (apply Ops_q; (case hon => exact Va); (case hd => rfl); (case hq => exact YlA)) | refine Vr ?_ | refine Vt ?_ | refine Vf ?_ | refine Vm ?_ | refine Ve ?_ | refine Vo ?_ | refine Vz ?_)
  refine V_loop (fun s : Nat × Value => [(9, .int .i64 s.1), (8, .int .i64 L.length), (7, .slice ao L.length c), (3, s.2)])
    (fun s w' => s.1 ≤ L.length ∧ Ext w w' ∧ Own w' w.heap.size 38 2 s.2 ((prefsL (L.take s.1)).map Pf.cells)) (fun s => L.length - s.1) (0, .slice none 0 0) (by repeat (first | exact trivial | refine ⟨rfl, ?_⟩)) ⟨Nat.zero_le _, Ext.refl _, Own.nil⟩ ?_
  rintro ⟨k, v⟩ w1 ⟨hk, x1, o1⟩
  dsimp only at hk o1 ⊢
  repeat (first | refine Vx ?_ | (apply Ops_q; (case hon => exact Va); (case hd => rfl); (case hq => exact YlA)) | refine Vr ?_ | refine Vt ?_ | refine Vf ?_ | refine Vm ?_ | refine Ve ?_ | refine Vo ?_ | refine Vz ?_)
  refine V_cond rfl (fun hg => ?_) (fun hg => ?_)
  · replace hg := of_decide_eq_true hg
    have hkl : k < L.length := by omega
    obtain ⟨s, hs⟩ : ∃ s, L[k]? = some s := ⟨_, List.getElem?_eq_getElem hkl⟩
    obtain ⟨ad, rfl, hc⟩ := hL k (spC s) (by rw [List.getElem?_map, hs]; rfl)
    have hsb := hB s (List.mem_of_getElem? hs)
    have hsn := prefsL_snoc hs
    have hpl : (prefsL (L.take k)).length + (prefL s.1 s.2).length ≤ L.length * 4294967296 := by
      rw [← List.length_append, ← hsn]
      refine Nat.le_trans (prefsL_len fun t ht => hB t (List.mem_of_mem_take ht)) (Nat.mul_le_mul_right _ ?_)
      rw [List.length_take]; exact Nat.min_le_right ..
    obtain ⟨lo, hi⟩ := s
    dsimp only at hsb hsn hpl
    have hc1 : Cells w1 (ad.add (k * 2)) [.int .u64 lo, .int .u64 hi] := hc.ext x1
    repeat (first | refine Vx ?_ | (apply Ops_q; (case hon => exact Va); (case hd => rfl); (case hq => exact YlA)) | refine Vr ?_ | refine Vt ?_ | refine Vf ?_ | refine Vm ?_ | refine Ve ?_ | refine Vo ?_ | refine Vz ?_)
    (apply Ops_q; (case hon => (exact Va)); (case hd => rfl); (case hq => exact Yl_indexS (j := k) rfl rfl (by omega)))
    repeat (first | refine Vx ?_ | (apply Ops_q; (case hon => exact Va); (case hd => rfl); (case hq => exact YlA)) | refine Vr ?_ | refine Vt ?_ | refine Vf ?_ | refine Vm ?_ | refine Ve ?_ | refine Vo ?_ | refine Vz ?_)
    (refine Ops_alloc (by exact Va) rfl ?_; intro w2 b5 n_b5; have k_b5 := n_b5.blk)
    repeat (first | refine Vx ?_ | (apply Ops_q; (case hon => exact Va); (case hd => rfl); (case hq => exact YlA)) | refine Vr ?_ | refine Vt ?_ | refine Vf ?_ | refine Vm ?_ | refine Ve ?_ | refine Vo ?_ | refine Vz ?_)
    (refine Ops_store (by exact Va) rfl rfl (by assumption) (by first | rfl | exact OneAll.h) ?_; intro w3 u_w3; have k_b5 := u_w3.blk)
    have y3 := u_w3.below n_b5.ext n_b5.ge
    have x3 := x1.trans y3
    have o3 := o1.ext y3
    have hb5 : w.heap.size ≤ b5 := Nat.le_trans x1.size n_b5.ge
    have hbv : v.ownBlock ≠ some b5 := fun e => by have := o1.lt e; have := n_b5.ge; omega
    clear u_w3 n_b5 o1 x1 y3 hc1
    repeat (first | refine Vx ?_ | (apply Ops_q; (case hon => exact Va); (case hd => rfl); (case hq => exact YlA)) | refine Vr ?_ | refine Vt ?_ | refine Vf ?_ | refine Vm ?_ | refine Ve ?_ | refine Vo ?_ | refine Vz ?_)
    refine V_loop (fun q : Nat × Value × List Pf => [(3, q.2.1), (5, .pointer (some ⟨b5, 0, none⟩)), (9, .int .i64 k), (8, .int .i64 L.length), (7, .slice (some ad) L.length c)])
      (fun q w' => Ext w w' ∧ Own w' w.heap.size 38 2 q.2.1 (q.2.2.map Pf.cells) ∧ Blk w' b5 126 [.int .u64 q.1, .int .u64 hi] ∧ q.2.1.ownBlock ≠ some b5 ∧ q.2.2 ++ prefL q.1 hi = prefsL (L.take k) ++ prefL lo hi) (fun q => hi - q.1) (lo, v, prefsL (L.take k)) (by repeat (first | exact trivial | refine ⟨rfl, ?_⟩)) ⟨x3, o3, k_b5, hbv, rfl⟩ ?_
    clear o3 k_b5 hbv x3
    rintro ⟨l, v, A⟩ w1 ⟨x1, o1, kb5, hbv, hA⟩
    dsimp only at o1 kb5 hbv hA ⊢
    repeat (first | refine Vx ?_ | (apply Ops_q; (case hon => exact Va); (case hd => rfl); (case hq => exact YlA)) | refine Vr ?_ | refine Vt ?_ | refine Vf ?_ | refine Vm ?_ | refine Ve ?_ | refine Vo ?_ | refine Vz ?_)
    refine V_cond rfl (fun hg2 => ?_) (fun hg2 => ?_)
    · have hlh : l < hi := by have := of_decide_eq_true hg2; omega
      clear hg2
      have hst := prefL_step hlh
      obtain ⟨hb1, hb2⟩ := bigN_spec (lo := l) (hi := hi) 32 (Nat.le_refl _) (by rw [Nat.sub_self, Nat.pow_zero]; exact hlh)
      have hAl : A.length ≤ L.length * 4294967296 := by
        have := congrArg List.length hA
        rw [List.length_append, List.length_append] at this; omega
      rw [hst] at hA
      repeat (first | refine Vx ?_ | (apply Ops_q; (case hon => exact Va); (case hd => rfl); (case hq => exact YlA)) | refine Vr ?_ | refine Vt ?_ | refine Vf ?_ | refine Vm ?_ | refine Ve ?_ | refine Vo ?_ | refine Vz ?_)
      refine V_loop (fun n : Nat => [(6, .int .i64 n), (3, v), (5, .pointer (some ⟨b5, 0, none⟩)), (9, .int .i64 k), (8, .int .i64 L.length), (7, .slice (some ad) L.length c)])
        (fun n w' => w' = w1 ∧ n ≤ 32 ∧ bigN l hi n = bigN l hi 32) (fun n => n) 32 (by repeat (first | exact trivial | refine ⟨rfl, ?_⟩)) ⟨rfl, Nat.le_refl _, rfl⟩ ?_
      rintro n w2 ⟨rfl, hn32, hbn⟩
      repeat (first | refine Vx ?_ | (apply Ops_q; (case hon => exact Va); (case hd => rfl); (case hq => exact YlA)) | refine Vr ?_ | refine Vt ?_ | refine Vf ?_ | refine Vm ?_ | refine Ve ?_ | refine Vo ?_ | refine Vz ?_)
      refine Ops_meet [(39, .bool (decide (0 < n ∧ l % 2 ^ (33 - n) = 0 ∧ l + 2 ^ (33 - n) ≤ hi))), (6, .int .i64 n), (3, v), (5, .pointer (some ⟨b5, 0, none⟩)), (9, .int .i64 k), (8, .int .i64 L.length), (7, .slice (some ad) L.length c)] ?_ ?_
      · refine Ops_split rfl rfl (fun h1 => ?_) (fun h1 => ?_)
        · have hn0 : 0 < n := by have := of_decide_eq_true h1; omega
          have hp0 : 1 ≤ 2 ^ (33 - n) := Nat.two_pow_pos _
          have hp1 : 2 ^ (33 - n) ≤ 2 ^ 32 := Nat.pow_le_pow_right (by decide) (by omega)
          have e33 : ((33 : Int) - (n : Int)).toNat = 33 - n := by omega
          have ep : (1 : Int) * 2 ^ ((33 : Int) - (n : Int)).toNat = ((2 ^ (33 - n) : Nat) : Int) := by rw [e33]; exact pow_cast _
          have i0 : (1 : Int) ≤ 1 * 2 ^ ((33 : Int) - (n : Int)).toNat := by rw [ep]; omega
          have i1 : InK .u64 ((1 : Int) * 2 ^ ((33 : Int) - (n : Int)).toNat) := by rw [ep]; exact inK_u64 _ (by omega)
          have i2 : InK .u64 ((l : Int) + 1 * 2 ^ ((33 : Int) - (n : Int)).toNat) := by rw [ep, ← Int.natCast_add]; exact inK_u64 _ (by omega)
          have q1 : (l : Int) % (1 * 2 ^ ((33 : Int) - (n : Int)).toNat) = ((l % 2 ^ (33 - n) : Nat) : Int) := by rw [ep, Int.natCast_emod]
          repeat (first | refine Vx ?_ | (apply Ops_q; (case hon => exact Va); (case hd => rfl); (case hq => exact YlA)) | refine Vr ?_ | refine Vt ?_ | refine Vf ?_ | refine Vm ?_ | refine Ve ?_ | refine Vo ?_ | refine Vz ?_)
          rw [q1]
          repeat (first | refine Vx ?_ | (apply Ops_q; (case hon => exact Va); (case hd => rfl); (case hq => exact YlA)) | refine Vr ?_ | refine Vt ?_ | refine Vf ?_ | refine Vm ?_ | refine Ve ?_ | refine Vo ?_ | refine Vz ?_)
          refine Ops_split rfl rfl (fun h2 => ?_) (fun h2 => ?_)
          · have h3 : l % 2 ^ (33 - n) = 0 := by have := of_decide_eq_true h2; omega
            clear h2
            repeat (first | refine Vx ?_ | (apply Ops_q; (case hon => exact Va); (case hd => rfl); (case hq => exact YlA)) | refine Vr ?_ | refine Vt ?_ | refine Vf ?_ | refine Vm ?_ | refine Ve ?_ | refine Vo ?_ | refine Vz ?_)
            refine ⟨⟨?_, (by repeat (first | exact trivial | refine ⟨rfl, ?_⟩))⟩, rfl⟩
            rw [ep]
            refine congrArg (fun b => some (Value.bool b)) (decide_eq_decide.2 ⟨fun h => ⟨hn0, h3, by omega⟩, fun h => ?_⟩)
            have := h.2.2
            omega
          · have h3 : ¬l % 2 ^ (33 - n) = 0 := by have := of_decide_eq_false h2; omega
            clear h2
            repeat (first | refine Vx ?_ | (apply Ops_q; (case hon => exact Va); (case hd => rfl); (case hq => exact YlA)) | refine Vr ?_ | refine Vt ?_ | refine Vf ?_ | refine Vm ?_ | refine Ve ?_ | refine Vo ?_ | refine Vz ?_)
            refine ⟨⟨?_, (by repeat (first | exact trivial | refine ⟨rfl, ?_⟩))⟩, rfl⟩
            exact congrArg (fun b => some (Value.bool b)) (decide_eq_false (fun h => h3 h.2.1)).symm
        · have hn0 : ¬0 < n := by have := of_decide_eq_false h1; omega
          clear h1
          repeat (first | refine Vx ?_ | (apply Ops_q; (case hon => exact Va); (case hd => rfl); (case hq => exact YlA)) | refine Vr ?_ | refine Vt ?_ | refine Vf ?_ | refine Vm ?_ | refine Ve ?_ | refine Vo ?_ | refine Vz ?_)
          refine ⟨⟨?_, (by repeat (first | exact trivial | refine ⟨rfl, ?_⟩))⟩, rfl⟩
          exact congrArg (fun b => some (Value.bool b)) (decide_eq_false (fun h => hn0 h.1)).symm
      repeat (first | refine Vx ?_ | (apply Ops_q; (case hon => exact Va); (case hd => rfl); (case hq => exact YlA)) | refine Vr ?_ | refine Vt ?_ | refine Vf ?_ | refine Vm ?_ | refine Ve ?_ | refine Vo ?_ | refine Vz ?_)
      refine V_cond rfl (fun hc => ?_) (fun hc => ?_)
      · have hc2 := of_decide_eq_true hc
        clear hc
        obtain ⟨m, rfl⟩ : ∃ m, n = m + 1 := ⟨n - 1, by omega⟩
        rw [show 33 - (m + 1) = 32 - m by omega] at hc2
        have em : ((m + 1 : Nat) : Int) - 1 = (m : Int) := by omega
        repeat (first | refine Vx ?_ | (apply Ops_q; (case hon => exact Va); (case hd => rfl); (case hq => exact YlA)) | refine Vr ?_ | refine Vt ?_ | refine Vf ?_ | refine Vm ?_ | refine Ve ?_ | refine Vo ?_ | refine Vz ?_)
        rw [em]
        refine ⟨m, (by repeat (first | exact trivial | refine ⟨rfl, ?_⟩)), ⟨rfl, by omega, ?_⟩, by omega⟩
        rw [← hbn, bigN, if_pos hc2.2]
      · have hc2 := of_decide_eq_false hc
        clear hc
        have hbe : bigN l hi 32 = n := by
          rw [← hbn]
          cases n with
          | zero => rfl
          | succ m =>
            rw [show 33 - (m + 1) = 32 - m by omega] at hc2
            rw [bigN, if_neg (fun h => hc2 ⟨Nat.succ_pos _, h⟩)]
        rw [hbe] at hst hA hb2
        have hl32 : InK .u32 (l : Int) := by
          have : 0 < 2 ^ (32 - n) := Nat.two_pow_pos _
          simp only [InK]; omega
        have ep : (1 : Int) * 2 ^ ((32 : Int) - (n : Int)).toNat = ((2 ^ (32 - n) : Nat) : Int) := by
          rw [show ((32 : Int) - (n : Int)).toNat = 32 - n by omega]; exact pow_cast _
        have i1 : InK .u64 ((1 : Int) * 2 ^ ((32 : Int) - (n : Int)).toNat) := by rw [ep]; exact inK_u64 _ (by omega)
        have i2 : InK .u64 ((l : Int) + 1 * 2 ^ ((32 : Int) - (n : Int)).toNat) := by rw [ep, ← Int.natCast_add]; exact inK_u64 _ (by omega)
        have q2 : (l : Int) + 1 * 2 ^ ((32 : Int) - (n : Int)).toNat = ((l + 2 ^ (32 - n) : Nat) : Int) := by rw [ep, Int.natCast_add]
        have hrm := roomP hAl hn
        repeat (first | refine Vx ?_ | (apply Ops_q; (case hon => exact Va); (case hd => rfl); (case hq => exact YlA)) | refine Vr ?_ | refine Vt ?_ | refine Vf ?_ | refine Vm ?_ | refine Ve ?_ | refine Vo ?_ | refine Vz ?_)
        (refine Ops_lit (by exact Va) rfl rfl rfl ?_; intro w6 b6 n_b6; have k_b6 := n_b6.blk)
        have o6 := o1.ext n_b6.ext
        have x6 := x1.trans n_b6.ext
        have hcs : Cells w6 ⟨b6, 0, none⟩ (Pf.cells ⟨l, n⟩) := n_b6.blk.cells
        repeat (first | refine Vx ?_ | (apply Ops_q; (case hon => exact Va); (case hd => rfl); (case hq => exact YlA)) | refine Vr ?_ | refine Vt ?_ | refine Vf ?_ | refine Vm ?_ | refine Ve ?_ | refine Vo ?_ | refine Vz ?_)
        refine Ops_append1 (u := Pf.cells ⟨l, n⟩) (by exact Va) rfl rfl rfl rfl o6 hcs ⟨rfl⟩ ⟨rfl⟩ (by rw [List.length_map]; exact hrm) rfl x6.size ?_
        intro v' w7 o7 g7 d7
        have m7 : Mod (fun c => v.ownBlock = some c) w2 w7 := (Mod.of_ext n_b6.ext).grow g7 (fun b hb => .inl hb)
        have x7 : Ext w w7 := Mod.ext_of x1 m7 (fun c hc => o6.ge hc)
        rw [show [Pf.cells ⟨l, n⟩] = [(⟨l, n⟩ : Pf)].map Pf.cells from rfl, ← List.map_append] at o7
        have k7 := m7.blk kb5 hbv
        have hbv7 : v'.ownBlock ≠ some b5 := dis_app d7 hbv (Nat.lt_of_lt_of_le kb5.lt n_b6.ext.size)
        clear g7 hcs o6 x6 n_b6 k_b6 d7 m7 o1 x1 kb5
        repeat (first | refine Vx ?_ | (apply Ops_q; (case hon => exact Va); (case hd => rfl); (case hq => exact YlA)) | refine Vr ?_ | refine Vt ?_ | refine Vf ?_ | refine Vm ?_ | refine Ve ?_ | refine Vo ?_ | refine Vz ?_)
        refine V_region_mixed 6 (by kernel_rfl) (by kernel_rfl) rfl ?_
        repeat (first | refine Vx ?_ | (apply Ops_q; (case hon => exact Va); (case hd => rfl); (case hq => exact YlA)) | refine Vr ?_ | refine Vt ?_ | refine Vf ?_ | refine Vm ?_ | refine Ve ?_ | refine Vo ?_ | refine Vz ?_)
        rw [q2]
        repeat (first | refine Vx ?_ | (apply Ops_q; (case hon => exact Va); (case hd => rfl); (case hq => exact YlA)) | refine Vr ?_ | refine Vt ?_ | refine Vf ?_ | refine Vm ?_ | refine Ve ?_ | refine Vo ?_ | refine Vz ?_)
        refine Ops_store (by exact Va) rfl rfl k7 (by first | rfl | exact OneAll.h) ?_
        intro w8 u_w8
        have k8 := u_w8.blk
        have x8 : Ext w w8 := u_w8.below x7 hb5
        have o8 := o7.upd u_w8 hbv7
        repeat (first | refine Vx ?_ | (apply Ops_q; (case hon => exact Va); (case hd => rfl); (case hq => exact YlA)) | refine Vr ?_ | refine Vt ?_ | refine Vf ?_ | refine Vm ?_ | refine Ve ?_ | refine Vo ?_ | refine Vz ?_)
        refine ⟨(l + 2 ^ (32 - n), v', A ++ [⟨l, n⟩]), (by repeat (first | exact trivial | refine ⟨rfl, ?_⟩)), ⟨x8, o8, k8, hbv7, ?_⟩, ?_⟩
        · rw [List.append_assoc]; exact hA
        · have : 0 < 2 ^ (32 - n) := Nat.two_pow_pos _
          dsimp only; omega
    · have hlh : ¬l < hi := by have := of_decide_eq_false hg2; omega
      clear hg2
      rw [prefL_nil hlh, List.append_nil] at hA
      repeat (first | refine Vx ?_ | (apply Ops_q; (case hon => exact Va); (case hd => rfl); (case hq => exact YlA)) | refine Vr ?_ | refine Vt ?_ | refine Vf ?_ | refine Vm ?_ | refine Ve ?_ | refine Vo ?_ | refine Vz ?_)
      refine ⟨(k + 1, v), (by repeat (first | exact trivial | refine ⟨rfl, ?_⟩)), ⟨hkl, x1, ?_⟩, by simp only; omega⟩
      dsimp only
      rw [hsn, ← hA]; exact o1
  replace hg := of_decide_eq_false hg
  obtain rfl : k = L.length := by omega
  rw [List.take_length] at o1
  repeat (first | refine Vx ?_ | (apply Ops_q; (case hon => exact Va); (case hd => rfl); (case hq => exact YlA)) | refine Vr ?_ | refine Vt ?_ | refine Vf ?_ | refine Vm ?_ | refine Ve ?_ | refine Vo ?_ | refine Vz ?_)
  refine ret1 (by first | exact .inl rfl | exact .inr rfl) rfl rfl ?_
  exact Gives_mk (fun w' he => o1.ext he) x1
/-! ### Subtract -/
/-- Whether Subtract leaves something is what hangs on it here. -/
def SubR (w : World) (A B : List Pf) (r : Value) (w' : World) : Prop := ∃ M : List Pf, Own w' w.heap.size 38 2 r (M.map Pf.cells) ∧ (M = [] ↔ ∀ x, (∃ p ∈ A, p.has x = true) → ∃ p ∈ B, p.has x = true)
set_option maxHeartbeats 1000000 in
theorem subtract_v (ao bo : Option Addr) (A B : List Pf) (c d : Nat) (w : World) (hA : Pfs w ao A) (hAa : ∀ p ∈ A, p.a < 4294967296) (hB : Pfs w bo B) (hBa : ∀ p ∈ B, p.a < 4294967296) (hn : A.length * (B.length + 1) ≤ 1000) (hAn : A.length ≤ 1000) (hBn : B.length ≤ 1000) :
    Calls Try.prog 58 #[.slice ao A.length c, .slice bo B.length d] w (Gives (SubR w A B) w) := by
  refine V_enter (vs := [_, _]) Try.func58 rfl Try.ntmps58 (Nat.le_of_ble_eq_true rfl) ?_
  repeat (first | refine Vx ?_ | (apply Ops_q; (case hon => exact Va); (case hd => rfl); (case hq => exact YlA)) | refine Vr ?_ | refine Vt ?_ | refine Vf ?_ | refine Vm ?_ | refine Ve ?_ | refine Vo ?_ | refine Vz ?_)
  (refine Ops_callR (by exact Va) rfl rfl (fun w_ e_ => spans_v ao A c w_ (hA.ext e_) hAa (by omega)) ?_; intro v1 w1 w0_ e0_ e1_ r_v1; have e_w1 := e0_.trans e1_; have b_v1 := e0_.size; clear e0_ e1_)
  obtain ⟨S, oS, nS, hS, lS⟩ := r_v1
  have lS2 := Nat.le_trans lS (spL_len A)
  obtain ⟨sa, sc, rfl, aS⟩ := oS.slice
  clear oS b_v1
  rw [List.length_map]
  repeat (first | refine Vx ?_ | (apply Ops_q; (case hon => exact Va); (case hd => rfl); (case hq => exact YlA)) | refine Vr ?_ | refine Vt ?_ | refine Vf ?_ | refine Vm ?_ | refine Ve ?_ | refine Vo ?_ | refine Vz ?_)
  (refine Ops_callR (by exact Va) rfl rfl (fun w_ e_ => spans_v bo B d w_ (hB.ext (e_w1.trans e_)) hBa (by omega)) ?_; intro v2 w2 w0_ e0_ e1_ r_v2; have e_w2 := e0_.trans e1_; have b_v2 := e0_.size; clear e0_ e1_)
  obtain ⟨T, oT, nT, hT, lT⟩ := r_v2
  have lT2 := Nat.le_trans lT (spL_len B)
  obtain ⟨ta, tc, rfl, aT⟩ := oT.slice
  clear oT b_v2
  rw [List.length_map]
  have x2 := e_w1.trans e_w2
  replace aS := aS.ext e_w2
  repeat (first | refine Vx ?_ | (apply Ops_q; (case hon => exact Va); (case hd => rfl); (case hq => exact YlA)) | refine Vr ?_ | refine Vt ?_ | refine Vf ?_ | refine Vm ?_ | refine Ve ?_ | refine Vo ?_ | refine Vz ?_)
  (refine Ops_callR (by exact Va) rfl rfl (fun w_ e_ => outside_v ta T tc w_ (aT.ext e_) (by omega)) ?_; intro v3 w3 w0_ e0_ e1_ r_v3; have e_w3 := e0_.trans e1_; have b_v3 := e0_.size; clear e0_ e1_)
  obtain ⟨hO1, hO2, hO3⟩ := outL_spec T 0 nT (Nat.zero_le _) (fun s _ => Nat.zero_le _)
  obtain ⟨oa, oc, rfl, aO⟩ := Own.slice r_v3
  clear r_v3 b_v3
  rw [List.length_map]
  have x3 := x2.trans e_w3
  replace aS := aS.ext e_w3
  have hmul : S.length * (outL 0 T).length ≤ 1000 := Nat.le_trans (Nat.mul_le_mul lS2 (Nat.le_trans hO3 (Nat.succ_le_succ lT2))) hn
  repeat (first | refine Vx ?_ | (apply Ops_q; (case hon => exact Va); (case hd => rfl); (case hq => exact YlA)) | refine Vr ?_ | refine Vt ?_ | refine Vf ?_ | refine Vm ?_ | refine Ve ?_ | refine Vo ?_ | refine Vz ?_)
  (refine Ops_callR (by exact Va) rfl rfl (fun w_ e_ => both_v sa oa S (outL 0 T) sc oc w_ (aS.ext e_) (aO.ext e_) (fun s hs => (nS.ne s hs).2) (by omega) (by omega) (by omega)) ?_; intro v4 w4 w0_ e0_ e1_ r_v4; have e_w4 := e0_.trans e1_; have b_v4 := e0_.size; clear e0_ e1_)
  obtain ⟨O, oO, nO, hO, lO⟩ := r_v4
  have lO2 := Nat.le_trans lO (bothS_len S (outL 0 T))
  obtain ⟨pa, pc, rfl, aP⟩ := oO.slice
  clear oO b_v4
  rw [List.length_map]
  have x4 := x3.trans e_w4
  repeat (first | refine Vx ?_ | (apply Ops_q; (case hon => exact Va); (case hd => rfl); (case hq => exact YlA)) | refine Vr ?_ | refine Vt ?_ | refine Vf ?_ | refine Vm ?_ | refine Ve ?_ | refine Vo ?_ | refine Vz ?_)
  (refine Ops_callR (by exact Va) rfl rfl (fun w_ e_ => prefixesR_v pa O pc w_ (aP.ext e_) (fun s hs => (nO.ne s hs).2) (by omega)) ?_; intro v5 w5 w0_ e0_ e1_ r_v5; have e_w5 := e0_.trans e1_; have b_v5 := e0_.size; clear e0_ e1_)
  have x5 := x4.trans e_w5
  have hsz : w.heap.size ≤ w0_.heap.size := Nat.le_trans x4.size b_v5
  have hres : prefsL O = [] ↔ ∀ x, (∃ p ∈ A, p.has x = true) → ∃ p ∈ B, p.has x = true := by
    rw [prefsL_nil fun s hs => (nO.ne s hs).1]
    constructor
    · intro h x hx
      by_cases hb : ∃ p ∈ B, p.has x = true
      · exact hb
      · exfalso
        have h1 : hasS S x := (hS x).2 (spL_has.2 hx)
        have h2 : hasS (outL 0 T) x := (hO2 x).2 ⟨Nat.zero_le _, by obtain ⟨s, hs, h3, h4⟩ := h1; have := (nS.ne s hs).2; omega, fun h3 => hb (spL_has.1 ((hT x).1 h3))⟩
        have h3 := (hO x).2 (bothS_has.2 ⟨h1, h2⟩)
        rw [h] at h3; exact hasS_nil h3
    · intro h
      cases O with
      | nil => rfl
      | cons s O =>
        exfalso
        have hs := nO.ne s (List.mem_cons_self ..)
        obtain ⟨h1, h2⟩ := bothS_has.1 ((hO s.1).1 ⟨s, List.mem_cons_self .., Nat.le_refl _, hs.1⟩)
        exact ((hO2 s.1).1 h2).2.2 ((hT s.1).2 (spL_has.2 (h s.1 (spL_has.1 ((hS s.1).1 h1)))))
  repeat (first | refine Vx ?_ | (apply Ops_q; (case hon => exact Va); (case hd => rfl); (case hq => exact YlA)) | refine Vr ?_ | refine Vt ?_ | refine Vf ?_ | refine Vm ?_ | refine Ve ?_ | refine Vo ?_ | refine Vz ?_)
  refine ret1 (by first | exact .inl rfl | exact .inr rfl) rfl rfl ?_
  exact Gives_mk (fun w' he => ⟨prefsL O, (r_v5.ext he).mono hsz, hres⟩) x5
end Go.Proofs.Ytkiidmbkibfbiaa

/-
  Tables (layer 7): the reference's hidden, above and Trim.
  Conditions: the lists are not too long for a machine.
-/
namespace Go.Proofs.Ytkiidmbkibfbiaa
open Go.RowKit

def longB (p : Pf) (x : En) : Bool := decide (x.p ≠ p) && p.covers x.p
/-- The prefixes within p that are not p. -/
def longL (p : Pf) (L : List En) : List Pf := (L.filter (longB p)).map En.p
theorem longL_snoc {L : List En} {k : Nat} {x : En} (p : Pf) (h : L[k]? = some x) : longL p (L.take (k + 1)) = longL p (L.take k) ++ if longB p x then [x.p] else [] := by
  unfold longL
  rw [List.take_add_one, h, Option.toList_some, List.filter_append, List.map_append]
  cases hv : longB p x with
  | true => rw [List.filter_cons_of_pos hv]; rfl
  | false => rw [List.filter_cons_of_neg (by rw [hv]; decide)]; rfl
theorem longL_len (p : Pf) (L : List En) : (longL p L).length ≤ L.length := by
  unfold longL; rw [List.length_map]; exact List.length_filter_le ..
theorem hid_long {L : List En} {p : Pf} : hid L p ↔ ∀ x, (∃ q ∈ [p], q.has x = true) → ∃ q ∈ longL p L, q.has x = true := by
  unfold hid longL longB
  constructor
  · rintro h x ⟨q, hq, hx⟩
    rw [List.mem_singleton.1 hq] at hx
    obtain ⟨y, h1, h2, h3, h4⟩ := h x hx
    exact ⟨y.p, List.mem_map.2 ⟨y, List.mem_filter.2 ⟨h1, by rw [decide_eq_true h2, h3]; rfl⟩, rfl⟩, h4⟩
  · intro h a ha
    obtain ⟨q, hq, hx⟩ := h a ⟨p, List.mem_singleton.2 rfl, ha⟩
    obtain ⟨y, hy, rfl⟩ := List.mem_map.1 hq
    obtain ⟨h1, h2⟩ := List.mem_filter.1 hy
    rw [Bool.and_eq_true, decide_eq_true_eq] at h2
    exact ⟨y, h1, h2.1, h2.2, hx⟩
theorem eqPf_dec (p q : Pf) : decide ((p.a : Int) = (q.a : Int) ∧ p.n = q.n) = decide (p = q) := by
  rw [decide_eq_decide]
  exact ⟨fun h => pf_eq (by omega) h.2, fun h => by rw [h]; exact ⟨rfl, rfl⟩⟩
set_option maxHeartbeats 2000000 in
theorem hidden_v (ao : Option Addr) (L : List En) (c : Nat) (e : En) (w : World) (hL : Ens w ao L) (hLa : ∀ e ∈ L, e.p.a < 4294967296) (hn : L.length ≤ 900) (he : e.p.a < 4294967296) :
    Calls Try.prog 37 #[.slice ao L.length c, e.val] w (Ret (.bool (decide (hid L e.p))) w) := by
  refine V_enter (vs := [_, _]) Try.func37 rfl Try.ntmps37 (Nat.le_of_ble_eq_true rfl) ?_
  repeat (first | refine Vx ?_ | (apply Ops_q; (case hon => exact Va); (case hd => rfl); (case hq => exact YlA)) | refine Vr ?_ | refine Vt ?_ | refine Vf ?_ | refine Vm ?_ | refine Ve ?_ | refine Vo ?_ | refine Vz ?_)
  (refine Ops_box (by exact Va) rfl rfl rfl ?_; intro w1 b3 n_b3; have k_b3 := n_b3.blk)
  have x1 := n_b3.ext
  clear n_b3
  repeat (first | refine Vx ?_ | (apply Ops_q; (case hon => exact Va); (case hd => rfl); (case hq => exact YlA)) | refine Vr ?_ | refine Vt ?_ | refine Vf ?_ | refine Vm ?_ | refine Ve ?_ | refine Vo ?_ | refine Vz ?_)
  refine V_loop (fun s : Nat × Value => [(10, .int .i64 s.1), (9, .int .i64 L.length), (8, .slice ao L.length c), (5, s.2), (3, .pointer (some ⟨b3, 0, none⟩))])
    (fun s w' => s.1 ≤ L.length ∧ Ext w1 w' ∧ Own w' w1.heap.size 38 2 s.2 ((longL e.p (L.take s.1)).map Pf.cells)) (fun s => L.length - s.1) (0, .slice none 0 0) (by repeat (first | exact trivial | refine ⟨rfl, ?_⟩)) ⟨Nat.zero_le _, Ext.refl _, Own.nil⟩ ?_
  rintro ⟨k, v⟩ w2 ⟨hk, x2, o2⟩
  dsimp only at hk o2 ⊢
  have kb3 := k_b3.ext x2
  have hep : Cells w2 ⟨b3, 0, none⟩ [.int .u32 e.p.a, .int .i64 e.p.n] := kb3.part 0 2
  repeat (first | refine Vx ?_ | (apply Ops_q; (case hon => exact Va); (case hd => rfl); (case hq => exact YlA)) | refine Vr ?_ | refine Vt ?_ | refine Vf ?_ | refine Vm ?_ | refine Ve ?_ | refine Vo ?_ | refine Vz ?_)
  refine V_cond rfl (fun hg => ?_) (fun hg => ?_)
  · replace hg := of_decide_eq_true hg
    have hkl : k < L.length := by omega
    obtain ⟨x, hx⟩ : ∃ x, L[k]? = some x := ⟨_, List.getElem?_eq_getElem hkl⟩
    obtain ⟨ad, rfl, hc⟩ := hL.at hx
    have hxa := hLa x (List.mem_of_getElem? hx)
    have hsn := longL_snoc e.p hx
    have hll := longL_len e.p (L.take k)
    rw [List.length_take] at hll
    have hc1 : Cells w2 (ad.add (k * 3)) [.int .u32 x.p.a, .int .i64 x.p.n, .int .i64 x.v] := (hc.ext x1).ext x2
    repeat (first | refine Vx ?_ | (apply Ops_q; (case hon => exact Va); (case hd => rfl); (case hq => exact YlA)) | refine Vr ?_ | refine Vt ?_ | refine Vf ?_ | refine Vm ?_ | refine Ve ?_ | refine Vo ?_ | refine Vz ?_)
    (apply Ops_q; (case hon => (exact Va)); (case hd => rfl); (case hq => exact Yl_indexS (j := k) rfl rfl (by omega)))
    repeat (first | refine Vx ?_ | (apply Ops_q; (case hon => exact Va); (case hd => rfl); (case hq => exact YlA)) | refine Vr ?_ | refine Vt ?_ | refine Vf ?_ | refine Vm ?_ | refine Ve ?_ | refine Vo ?_ | refine Vz ?_)
    (refine Ops_alloc (by exact Va) rfl ?_; intro w3 b7 n_b7; have k_b7 := n_b7.blk)
    repeat (first | refine Vx ?_ | (apply Ops_q; (case hon => exact Va); (case hd => rfl); (case hq => exact YlA)) | refine Vr ?_ | refine Vt ?_ | refine Vf ?_ | refine Vm ?_ | refine Ve ?_ | refine Vo ?_ | refine Vz ?_)
    (refine Ops_store (by exact Va) rfl rfl (by assumption) (by first | rfl | exact OneAll.h) ?_; intro w4 u_w4; have k_b7 := u_w4.blk)
    have y4 := u_w4.below n_b7.ext n_b7.ge
    have x4 := x2.trans y4
    have o4 := o2.ext y4
    replace hep := hep.ext y4
    have hb7 : v.ownBlock ≠ some b7 := fun e => by have := o2.lt e; have := n_b7.ge; omega
    clear u_w4 n_b7 o2 kb3 hc1
    have hxp : Cells w4 ⟨b7, 0, none⟩ [.int .u32 x.p.a, .int .i64 x.p.n] := k_b7.part 0 2
    repeat (first | refine Vx ?_ | (apply Ops_q; (case hon => exact Va); (case hd => rfl); (case hq => exact YlA)) | refine Vr ?_ | refine Vt ?_ | refine Vf ?_ | refine Vm ?_ | refine Ve ?_ | refine Vo ?_ | refine Vz ?_)
    rw [eqPf_dec]
    refine Ops_meet [(25, .bool (longB e.p x)), (7, .pointer (some ⟨b7, 0, none⟩)), (5, v), (10, .int .i64 k), (9, .int .i64 L.length), (8, .slice (some ad) L.length c), (3, .pointer (some ⟨b3, 0, none⟩))] ?_ ?_
    · refine Ops_split rfl rfl (fun h1 => ?_) (fun h1 => ?_)
      · repeat (first | refine Vx ?_ | (apply Ops_q; (case hon => exact Va); (case hd => rfl); (case hq => exact YlA)) | refine Vr ?_ | refine Vt ?_ | refine Vf ?_ | refine Vm ?_ | refine Ve ?_ | refine Vo ?_ | refine Vz ?_)
        (apply Ops_q; (case hon => (exact Va)); (case hd => rfl); (case hq => exact Yl_call rfl (fun w_ e_ => coversR_v e.p x.p w_ he hxa)))
        repeat (first | refine Vx ?_ | (apply Ops_q; (case hon => exact Va); (case hd => rfl); (case hq => exact YlA)) | refine Vr ?_ | refine Vt ?_ | refine Vf ?_ | refine Vm ?_ | refine Ve ?_ | refine Vo ?_ | refine Vz ?_)
        refine ⟨⟨?_, (by repeat (first | exact trivial | refine ⟨rfl, ?_⟩))⟩, rfl⟩
        refine congrArg (fun b => some (Value.bool b)) ?_
        rw [longB]
        have : ¬x.p = e.p := by simpa using h1
        rw [decide_eq_true this]; rfl
      · repeat (first | refine Vx ?_ | (apply Ops_q; (case hon => exact Va); (case hd => rfl); (case hq => exact YlA)) | refine Vr ?_ | refine Vt ?_ | refine Vf ?_ | refine Vm ?_ | refine Ve ?_ | refine Vo ?_ | refine Vz ?_)
        refine ⟨⟨?_, (by repeat (first | exact trivial | refine ⟨rfl, ?_⟩))⟩, rfl⟩
        refine congrArg (fun b => some (Value.bool b)) ?_
        rw [longB]
        have : x.p = e.p := by simpa using h1
        rw [decide_eq_false (fun h => h this)]; rfl
    repeat (first | refine Vx ?_ | (apply Ops_q; (case hon => exact Va); (case hd => rfl); (case hq => exact YlA)) | refine Vr ?_ | refine Vt ?_ | refine Vf ?_ | refine Vm ?_ | refine Ve ?_ | refine Vo ?_ | refine Vz ?_)
    refine V_cond rfl (fun h2 => ?_) (fun h2 => ?_)
    · rw [if_pos h2] at hsn
      repeat (first | refine Vx ?_ | (apply Ops_q; (case hon => exact Va); (case hd => rfl); (case hq => exact YlA)) | refine Vr ?_ | refine Vt ?_ | refine Vf ?_ | refine Vm ?_ | refine Ve ?_ | refine Vo ?_ | refine Vz ?_)
      (refine Ops_lit (by exact Va) rfl rfl rfl ?_; intro w6 b6 n_b6; have k_b6 := n_b6.blk)
      have o6 := o4.ext n_b6.ext
      have x6 := x4.trans n_b6.ext
      have hcs : Cells w6 ⟨b6, 0, none⟩ x.p.cells := n_b6.blk.cells
      repeat (first | refine Vx ?_ | (apply Ops_q; (case hon => exact Va); (case hd => rfl); (case hq => exact YlA)) | refine Vr ?_ | refine Vt ?_ | refine Vf ?_ | refine Vm ?_ | refine Ve ?_ | refine Vo ?_ | refine Vz ?_)
      refine Ops_append1 (u := x.p.cells) (by exact Va) rfl rfl rfl rfl o6 hcs ⟨rfl⟩ ⟨rfl⟩ (by rw [List.length_map]; omega) rfl x6.size ?_
      intro v' w7 o7 g7 d7
      have m7 : Mod (fun c => v.ownBlock = some c) w4 w7 := (Mod.of_ext n_b6.ext).grow g7 (fun b hb => .inl hb)
      have x7 : Ext w1 w7 := Mod.ext_of x4 m7 (fun c hc => o6.ge hc)
      rw [show [x.p.cells] = [x.p].map Pf.cells from rfl, ← List.map_append, ← hsn] at o7
      repeat (first | refine Vx ?_ | (apply Ops_q; (case hon => exact Va); (case hd => rfl); (case hq => exact YlA)) | refine Vr ?_ | refine Vt ?_ | refine Vf ?_ | refine Vm ?_ | refine Ve ?_ | refine Vo ?_ | refine Vz ?_)
      exact ⟨(k + 1, v'), (by repeat (first | exact trivial | refine ⟨rfl, ?_⟩)), ⟨hkl, x7, o7⟩, by simp only; omega⟩
    · rw [if_neg (by rw [h2]; decide), List.append_nil] at hsn
      repeat (first | refine Vx ?_ | (apply Ops_q; (case hon => exact Va); (case hd => rfl); (case hq => exact YlA)) | refine Vr ?_ | refine Vt ?_ | refine Vf ?_ | refine Vm ?_ | refine Ve ?_ | refine Vo ?_ | refine Vz ?_)
      refine ⟨(k + 1, v), (by repeat (first | exact trivial | refine ⟨rfl, ?_⟩)), ⟨hkl, x4, ?_⟩, by simp only; omega⟩
      dsimp only
      rw [hsn]; exact o4
  replace hg := of_decide_eq_false hg
  obtain rfl : k = L.length := by omega
  rw [List.take_length] at o2
  obtain ⟨au, cu, rfl, hA⟩ := o2.slice
  have hll := longL_len e.p L
  have hlv : ∀ p ∈ longL e.p L, p.a < 4294967296 := fun p hp => by
    obtain ⟨y, hy, rfl⟩ := List.mem_map.1 hp
    exact hLa y (List.mem_filter.1 hy).1
  rw [List.length_map]
  repeat (first | refine Vx ?_ | (apply Ops_q; (case hon => exact Va); (case hd => rfl); (case hq => exact YlA)) | refine Vr ?_ | refine Vt ?_ | refine Vf ?_ | refine Vm ?_ | refine Ve ?_ | refine Vo ?_ | refine Vz ?_)
  (refine Ops_lit (by exact Va) rfl rfl rfl ?_; intro w3 b4 n_b4; have k_b4 := n_b4.blk)
  have hP : Pfs w3 (some ⟨b4, 0, none⟩) [e.p] := fun k x hk => ⟨_, rfl, by
    rcases k with _ | k
    · cases hk; exact n_b4.blk.cells
    · simp at hk⟩
  have hA3 := hA.ext n_b4.ext
  have x3 := x2.trans n_b4.ext
  repeat (first | refine Vx ?_ | (apply Ops_q; (case hon => exact Va); (case hd => rfl); (case hq => exact YlA)) | refine Vr ?_ | refine Vt ?_ | refine Vf ?_ | refine Vm ?_ | refine Ve ?_ | refine Vo ?_ | refine Vz ?_)
  (refine Ops_callR (by exact Va) rfl rfl (fun w_ e_ => subtract_v (some ⟨b4, 0, none⟩) au [e.p] (longL e.p L) 1 cu w_ (hP.ext e_) (fun p hp => by rw [List.mem_singleton.1 hp]; exact he) (Arr.ext hA3 e_) hlv (by simp; omega) (by simp) (by omega)) ?_; intro v2 w4 w0_ e0_ e1_ r_v2; have e_w4 := e0_.trans e1_; have b_v2 := e0_.size; clear e0_ e1_)
  obtain ⟨M, oM, hM⟩ := r_v2
  obtain ⟨ma, mc, rfl, _⟩ := oM.slice
  rw [List.length_map]
  repeat (first | refine Vx ?_ | (apply Ops_q; (case hon => exact Va); (case hd => rfl); (case hq => exact YlA)) | refine Vr ?_ | refine Vt ?_ | refine Vf ?_ | refine Vm ?_ | refine Ve ?_ | refine Vo ?_ | refine Vz ?_)
  refine ret1 (by first | exact .inl rfl | exact .inr rfl) rfl rfl ?_
  refine Ret_mk ?_ ((x1.trans x3).trans e_w4)
  refine congrArg Value.bool (decide_eq_decide.2 ?_)
  rw [hid_long, ← hM]
  exact ⟨fun h => List.length_eq_zero_iff.1 (by omega), fun h => by rw [h]; rfl⟩
/-! ### above -/
def abvS (p : Pf) (s : Int × Int) (x : En) : Int × Int := if decide (x.p ≠ p) && (decide (s.2 < x.p.n) && x.p.covers p) then (x.v, x.p.n) else s
def abv (L : List En) (p : Pf) : Int := (L.foldl (abvS p) (-1, -1)).1
theorem abv_step {L : List En} {k : Nat} {x : En} (p : Pf) (hx : L[k]? = some x) : (L.take (k + 1)).foldl (abvS p) (-1, -1) = abvS p ((L.take k).foldl (abvS p) (-1, -1)) x := by
  rw [List.take_add_one, hx, List.foldl_append]; rfl
theorem abv_fold {p : Pf} (L : List En) : Tb L → L.foldl (abvS p) (-1, -1) = enS (sc L p).getLast? := by
  refine en_ind (P := fun L => Tb L → L.foldl (abvS p) (-1, -1) = enS (sc L p).getLast?) (fun _ => rfl) (fun L x ih h => ?_) L
  have ih := ih (h.sub (List.sublist_append_left ..))
  rw [List.foldl_append, ih]
  show abvS p (enS (sc L p).getLast?) x = _
  rw [abvS]
  unfold sc at *
  rw [List.filter_append]
  have hx := h.ok x (List.mem_append.2 (.inr (List.mem_singleton.2 rfl)))
  obtain ⟨v1, v2, v3⟩ := Pf.valid_iff.1 hx.1
  cases hc : (x.p.covers p && decide (x.p ≠ p)) with
  | false =>
    have : (decide (x.p ≠ p) && (decide ((enS (L.filter fun x => x.p.covers p && decide (x.p ≠ p)).getLast?).2 < x.p.n) && x.p.covers p)) = false := by
      cases h1 : x.p.covers p <;> cases h2 : decide (x.p ≠ p) <;> simp_all
    rw [this, if_neg (by decide), List.filter_cons_of_neg (p := fun x : En => x.p.covers p && decide (x.p ≠ p)) (by rw [hc]; decide), List.filter_nil, List.append_nil]
  | true =>
    rw [List.filter_cons_of_pos (p := fun x : En => x.p.covers p && decide (x.p ≠ p)) hc, List.filter_nil, List.getLast?_append]
    rw [Bool.and_eq_true] at hc
    have : decide ((enS (L.filter fun x => x.p.covers p && decide (x.p ≠ p)).getLast?).2 < x.p.n) = true := by
      refine decide_eq_true ?_
      cases hl : (L.filter fun x => x.p.covers p && decide (x.p ≠ p)).getLast? with
      | none => show (-1 : Int) < x.p.n; omega
      | some y =>
        show y.p.n < x.p.n
        obtain ⟨hy1, hy2⟩ := List.mem_filter.1 (List.mem_of_getLast? hl)
        rw [Bool.and_eq_true] at hy2
        have hlt := (List.pairwise_append.1 h.srt).2.2 y hy1 x (List.mem_singleton.2 rfl)
        have hpv := (covers_iff.1 hc.1).1
        have h2 := has_lt (covers_has hy2.1 (has_self hpv)) (covers_has hc.1 (has_self hpv)) hlt
        exact covers_n h2 (fun e => by rw [e] at hlt; exact pLt_irrefl _ hlt)
    rw [this, hc.2, hc.1]; rfl
theorem abv_eq {L : List En} (p : Pf) (h : Tb L) : abv L p = lastV (sc L p) := by
  rw [abv, abv_fold L h, lastV]
  cases (sc L p).getLast? <;> rfl
set_option maxHeartbeats 2000000 in
theorem aboveR_v (ao : Option Addr) (L : List En) (c : Nat) (e : En) (w : World) (hL : Ens w ao L) (hLa : ∀ e ∈ L, e.p.a < 4294967296) (hn : L.length ≤ 1000000) (he : e.p.a < 4294967296) :
    Calls Try.prog 38 #[.slice ao L.length c, e.val] w (Ret (.int .i64 (abv L e.p)) w) := by
  refine V_enter (vs := [_, _]) Try.func38 rfl Try.ntmps38 (Nat.le_of_ble_eq_true rfl) ?_
  repeat (first | refine Vx ?_ | (apply Ops_q; (case hon => exact Va); (case hd => rfl); (case hq => exact YlA)) | refine Vr ?_ | refine Vt ?_ | refine Vf ?_ | refine Vm ?_ | refine Ve ?_ | refine Vo ?_ | refine Vz ?_)
  (refine Ops_box (by exact Va) rfl rfl rfl ?_; intro w1 b3 n_b3; have k_b3 := n_b3.blk)
  have x1 := n_b3.ext
  clear n_b3
  repeat (first | refine Vx ?_ | (apply Ops_q; (case hon => exact Va); (case hd => rfl); (case hq => exact YlA)) | refine Vr ?_ | refine Vt ?_ | refine Vf ?_ | refine Vm ?_ | refine Ve ?_ | refine Vo ?_ | refine Vz ?_)
  refine V_loop (fun k : Nat => [(11, .int .i64 k), (10, .int .i64 L.length), (9, .slice ao L.length c), (3, .pointer (some ⟨b3, 0, none⟩)), (5, .int .i64 ((L.take k).foldl (abvS e.p) (-1, -1)).1), (6, .int .i64 ((L.take k).foldl (abvS e.p) (-1, -1)).2)])
    (fun k w' => k ≤ L.length ∧ Ext w1 w') (fun k => L.length - k) 0 (by repeat (first | exact trivial | refine ⟨rfl, ?_⟩)) ⟨Nat.zero_le _, Ext.refl _⟩ ?_
  rintro k w2 ⟨hk, x2⟩
  have kb3 := k_b3.ext x2
  have hep : Cells w2 ⟨b3, 0, none⟩ [.int .u32 e.p.a, .int .i64 e.p.n] := kb3.part 0 2
  repeat (first | refine Vx ?_ | (apply Ops_q; (case hon => exact Va); (case hd => rfl); (case hq => exact YlA)) | refine Vr ?_ | refine Vt ?_ | refine Vf ?_ | refine Vm ?_ | refine Ve ?_ | refine Vo ?_ | refine Vz ?_)
  refine V_cond rfl (fun hg => ?_) (fun hg => ?_)
  · replace hg := of_decide_eq_true hg
    have hkl : k < L.length := by omega
    obtain ⟨x, hx⟩ : ∃ x, L[k]? = some x := ⟨_, List.getElem?_eq_getElem hkl⟩
    have hst := abv_step e.p hx
    obtain ⟨ad, rfl, hc⟩ := hL.at hx
    have hxa := hLa x (List.mem_of_getElem? hx)
    have hc1 : Cells w2 (ad.add (k * 3)) [.int .u32 x.p.a, .int .i64 x.p.n, .int .i64 x.v] := (hc.ext x1).ext x2
    generalize (L.take k).foldl (abvS e.p) (-1, -1) = s at *
    obtain ⟨bv, bl⟩ := s
    repeat (first | refine Vx ?_ | (apply Ops_q; (case hon => exact Va); (case hd => rfl); (case hq => exact YlA)) | refine Vr ?_ | refine Vt ?_ | refine Vf ?_ | refine Vm ?_ | refine Ve ?_ | refine Vo ?_ | refine Vz ?_)
    (apply Ops_q; (case hon => (exact Va)); (case hd => rfl); (case hq => exact Yl_indexS (j := k) rfl rfl (by omega)))
    repeat (first | refine Vx ?_ | (apply Ops_q; (case hon => exact Va); (case hd => rfl); (case hq => exact YlA)) | refine Vr ?_ | refine Vt ?_ | refine Vf ?_ | refine Vm ?_ | refine Ve ?_ | refine Vo ?_ | refine Vz ?_)
    (refine Ops_alloc (by exact Va) rfl ?_; intro w3 b8 n_b8; have k_b8 := n_b8.blk)
    repeat (first | refine Vx ?_ | (apply Ops_q; (case hon => exact Va); (case hd => rfl); (case hq => exact YlA)) | refine Vr ?_ | refine Vt ?_ | refine Vf ?_ | refine Vm ?_ | refine Ve ?_ | refine Vo ?_ | refine Vz ?_)
    (refine Ops_store (by exact Va) rfl rfl (by assumption) (by first | rfl | exact OneAll.h) ?_; intro w4 u_w4; have k_b8 := u_w4.blk)
    have y4 := u_w4.below n_b8.ext n_b8.ge
    have x4 := x2.trans y4
    replace hep := hep.ext y4
    clear u_w4 n_b8 kb3 hc1
    have hxp : Cells w4 ⟨b8, 0, none⟩ [.int .u32 x.p.a, .int .i64 x.p.n] := k_b8.part 0 2
    repeat (first | refine Vx ?_ | (apply Ops_q; (case hon => exact Va); (case hd => rfl); (case hq => exact YlA)) | refine Vr ?_ | refine Vt ?_ | refine Vf ?_ | refine Vm ?_ | refine Ve ?_ | refine Vo ?_ | refine Vz ?_)
    rw [eqPf_dec]
    refine Ops_meet [(33, .bool (decide (x.p ≠ e.p) && (decide (bl < x.p.n) && x.p.covers e.p))), (8, .pointer (some ⟨b8, 0, none⟩)), (11, .int .i64 k), (10, .int .i64 L.length), (9, .slice (some ad) L.length c), (3, .pointer (some ⟨b3, 0, none⟩)), (5, .int .i64 bv), (6, .int .i64 bl)] ?_ ?_
    · refine Ops_split rfl rfl (fun h1 => ?_) (fun h1 => ?_)
      · have h1' : ¬x.p = e.p := by simpa using h1
        repeat (first | refine Vx ?_ | (apply Ops_q; (case hon => exact Va); (case hd => rfl); (case hq => exact YlA)) | refine Vr ?_ | refine Vt ?_ | refine Vf ?_ | refine Vm ?_ | refine Ve ?_ | refine Vo ?_ | refine Vz ?_)
        refine Ops_split rfl rfl (fun h2 => ?_) (fun h2 => ?_)
        · replace h2 := of_decide_eq_true h2
          repeat (first | refine Vx ?_ | (apply Ops_q; (case hon => exact Va); (case hd => rfl); (case hq => exact YlA)) | refine Vr ?_ | refine Vt ?_ | refine Vf ?_ | refine Vm ?_ | refine Ve ?_ | refine Vo ?_ | refine Vz ?_)
          (apply Ops_q; (case hon => (exact Va)); (case hd => rfl); (case hq => exact Yl_call rfl (fun w_ e_ => coversR_v x.p e.p w_ hxa he)))
          repeat (first | refine Vx ?_ | (apply Ops_q; (case hon => exact Va); (case hd => rfl); (case hq => exact YlA)) | refine Vr ?_ | refine Vt ?_ | refine Vf ?_ | refine Vm ?_ | refine Ve ?_ | refine Vo ?_ | refine Vz ?_)
          refine ⟨⟨?_, (by repeat (first | exact trivial | refine ⟨rfl, ?_⟩))⟩, rfl⟩
          refine congrArg (fun b => some (Value.bool b)) ?_
          rw [decide_eq_true h1', decide_eq_true (by omega)]; rfl
        · replace h2 := of_decide_eq_false h2
          repeat (first | refine Vx ?_ | (apply Ops_q; (case hon => exact Va); (case hd => rfl); (case hq => exact YlA)) | refine Vr ?_ | refine Vt ?_ | refine Vf ?_ | refine Vm ?_ | refine Ve ?_ | refine Vo ?_ | refine Vz ?_)
          refine ⟨⟨?_, (by repeat (first | exact trivial | refine ⟨rfl, ?_⟩))⟩, rfl⟩
          refine congrArg (fun b => some (Value.bool b)) ?_
          rw [decide_eq_true h1', decide_eq_false (by omega)]; rfl
      · have h1' : x.p = e.p := by simpa using h1
        repeat (first | refine Vx ?_ | (apply Ops_q; (case hon => exact Va); (case hd => rfl); (case hq => exact YlA)) | refine Vr ?_ | refine Vt ?_ | refine Vf ?_ | refine Vm ?_ | refine Ve ?_ | refine Vo ?_ | refine Vz ?_)
        refine ⟨⟨?_, (by repeat (first | exact trivial | refine ⟨rfl, ?_⟩))⟩, rfl⟩
        refine congrArg (fun b => some (Value.bool b)) ?_
        rw [decide_eq_false (fun h => h h1')]; rfl
    repeat (first | refine Vx ?_ | (apply Ops_q; (case hon => exact Va); (case hd => rfl); (case hq => exact YlA)) | refine Vr ?_ | refine Vt ?_ | refine Vf ?_ | refine Vm ?_ | refine Ve ?_ | refine Vo ?_ | refine Vz ?_)
    refine V_cond rfl (fun h2 => ?_) (fun h2 => ?_)
    · rw [abvS, if_pos h2] at hst
      repeat (first | refine Vx ?_ | (apply Ops_q; (case hon => exact Va); (case hd => rfl); (case hq => exact YlA)) | refine Vr ?_ | refine Vt ?_ | refine Vf ?_ | refine Vm ?_ | refine Ve ?_ | refine Vo ?_ | refine Vz ?_)
      refine ⟨k + 1, ?_, ⟨hkl, x4⟩, by omega⟩
      rw [hst]
      exact (by repeat (first | exact trivial | refine ⟨rfl, ?_⟩))
    · rw [abvS, if_neg (by rw [h2]; decide)] at hst
      repeat (first | refine Vx ?_ | (apply Ops_q; (case hon => exact Va); (case hd => rfl); (case hq => exact YlA)) | refine Vr ?_ | refine Vt ?_ | refine Vf ?_ | refine Vm ?_ | refine Ve ?_ | refine Vo ?_ | refine Vz ?_)
      refine ⟨k + 1, ?_, ⟨hkl, x4⟩, by omega⟩
      rw [hst]
      exact (by repeat (first | exact trivial | refine ⟨rfl, ?_⟩))
  replace hg := of_decide_eq_false hg
  obtain rfl : k = L.length := by omega
  repeat (first | refine Vx ?_ | (apply Ops_q; (case hon => exact Va); (case hd => rfl); (case hq => exact YlA)) | refine Vr ?_ | refine Vt ?_ | refine Vf ?_ | refine Vm ?_ | refine Ve ?_ | refine Vo ?_ | refine Vz ?_)
  refine ret1 (by first | exact .inl rfl | exact .inr rfl) rfl rfl ?_
  exact Ret_mk (by rw [abv, List.take_length]) (x1.trans x2)
end Go.Proofs.Ytkiidmbkibfbiaa

/-
  Tables (layer 7): the tree of Minimal in memory: grow.
  Conditions: the lists are not too long for a machine.
-/
namespace Go.Proofs.Ytkiidmbkibfbiaa
open Go.RowKit

section
variable {P : Program} {N : Nat} {m : Env} {w : World} {ty : TypeId} {pos : String} {after : Array Edge} {g : Option (Nat × Bool)} {dst : Option Tmp}
theorem Yl_sliceHi {t e : TypeId} {x y : Operand} {k : IntKind} {i c n0 b0 n : Nat} {ao : Option Addr} [ht : TSlice P t e] [hs : TSize P e n0 b0] (hx : ev m x = some (.slice ao n c)) (hy : ev m y = some (.int k (i : Int))) (hi : i ≤ n) (_ : n ≤ c) :
    Yl P N m w ⟨dst, .slice t x none (some y) none, ty, pos, after, g⟩ (.slice ao i c) := by
  refine Yl_of_run fun ac w' ha _ => ?_
  obtain ⟨inf, h1, h2⟩ := Option.map_eq_some_iff.1 hs.h
  have he : P.elem t = e := by simp [Program.elem, ht.h]
  have hu : P.underlying t = some (.slice (P.elem t)) := by rw [he]; exact ht.h
  have h0 : ao.map (fun a => a.add 0) = ao := by cases ao <;> simp [Addr.add]
  have := run_slice_h (P := P) w' t ao n c hu k i (by omega) (by omega)
  simp only [execOp, Option.map_none, Option.map_some, ha.ev hx, ha.ev hy]
  simp only [Sem.run_bind, run_sliceAt_slice w' t _ _ _ _ hu, this, sizeOf, typeInfo, he]
  simp [sliced, h1, h0, Result.andThen]
def cutA (ao : Option Addr) (i c n0 : Nat) : Option Addr := if c = i then ao else ao.map (·.add (i * n0))
theorem Yl_sliceLo {t e : TypeId} {x y : Operand} {k : IntKind} {i c n0 b0 n : Nat} {ao : Option Addr} [ht : TSlice P t e] [hs : TSize P e n0 b0] (hx : ev m x = some (.slice ao n c)) (hy : ev m y = some (.int k (i : Int))) (hi : i ≤ n) (_ : n ≤ c) :
    Yl P N m w ⟨dst, .slice t x (some y) none none, ty, pos, after, g⟩ (.slice (cutA ao i c n0) (n - i) (c - i)) := by
  refine Yl_of_run fun ac w' ha _ => ?_
  obtain ⟨inf, h1, h2⟩ := Option.map_eq_some_iff.1 hs.h
  simp only [Prod.mk.injEq] at h2
  have he : P.elem t = e := by simp [Program.elem, ht.h]
  have hu : P.underlying t = some (.slice (P.elem t)) := by rw [he]; exact ht.h
  have := run_slice_l (P := P) w' t ao n c hu k i (by omega) (by omega)
  simp only [execOp, Option.map_none, Option.map_some, ha.ev hx, ha.ev hy]
  simp only [Sem.run_bind, run_sliceAt_slice w' t _ _ _ _ hu, this, sizeOf, typeInfo, he]
  simp [sliced, h1, h2.1, Result.andThen, cutA]
end
theorem built_kids (p q : Option Addr) : Try.prog.built 80 [(0, .pointer p), (1, .pointer q)] = some #[.pointer p, .pointer q] := by kernel_rfl
theorem Yl_kids {N : Nat} {m : Env} {w : World} {ty : TypeId} {pos : String} {after : Array Edge} {g : Option (Nat × Bool)} {dst : Option Tmp} {ps : Array (Nat × Operand)} {p q : Option Addr} (hp : evp m ps.toList = some [(0, .pointer p), (1, .pointer q)]) :
    Yl Try.prog N m w ⟨dst, .build 80 ps, ty, pos, after, g⟩ (.agg #[.pointer p, .pointer q]) :=
  Yl_of_run fun ac w' ha _ => by
    have e1 : ps.map (fun p => (p.1, ac.eval p.2)) = #[(0, .pointer p), (1, .pointer q)] := by
      have := ha.evp hp
      rw [← Array.toList_map] at this
      exact Array.toList_inj.1 this
    have := run_build (P := Try.prog) w' 80 #[(0, .pointer p), (1, .pointer q)] #[.pointer p, .pointer q] (built_kids p q)
    simp only [execOp, e1]
    simp [this]
/-- A slice of entries. -/
structure Sl (w : World) (ao : Option Addr) (n c : Nat) (l : List En) : Prop where
  len : n = l.length
  ens : Ens w ao l
  cap : n ≤ c
  nil : ao = none → c = 0
theorem Sl.ext {w w' : World} {ao : Option Addr} {n c : Nat} {l : List En} (h : Sl w ao n c l) (he : Ext w w') : Sl w' ao n c l := ⟨h.len, h.ens.ext he, h.cap, h.nil⟩
theorem Sl.hi {w : World} {ao : Option Addr} {n c : Nat} {A B : List En} (h : Sl w ao n c (A ++ B)) : Sl w ao A.length c A := by
  have h1 := h.len
  have h2 := h.cap
  rw [List.length_append] at h1
  have h3 : (A ++ B).take A.length = A := by simp
  have h4 := Arr.take h.ens A.length
  rw [← List.map_take, h3] at h4
  exact ⟨rfl, h4, by omega, h.nil⟩
theorem Sl.lo {w : World} {ao : Option Addr} {n c : Nat} {A B : List En} (h : Sl w ao n c (A ++ B)) : Sl w (cutA ao A.length c 3) (n - A.length) (c - A.length) B := by
  have h1 := h.len
  have h2 := h.cap
  rw [List.length_append] at h1
  have h3 : (A ++ B).drop A.length = B := by simp
  refine ⟨by omega, ?_, by omega, fun he => ?_⟩
  · unfold cutA
    split
    · have : B = [] := List.length_eq_zero_iff.1 (by omega)
      rw [this]; exact Arr.nil
    · cases ao with
      | none =>
        have := h.nil rfl
        have : B = [] := List.length_eq_zero_iff.1 (by omega)
        rw [this]; exact Arr.nil
      | some ad =>
        have h4 := Arr.drop h.ens A.length
        rw [← List.map_drop, h3] at h4
        exact h4
  · unfold cutA at he
    split at he
    · have := h.nil he; omega
    · have : ao = none := by cases ao <;> simp at he ⊢
      have := h.nil this; omega
theorem half_split {x k : Nat} {l : List En} (hk : k < 32) (h : Wi x k l) (hn : ∀ e ∈ l, ((k + 1 : Nat) : Int) ≤ e.p.n) : l = halfL x k 0 l ++ halfL x k 1 l := by
  unfold halfL
  induction l with
  | nil => rfl
  | cons e r ih =>
    obtain ⟨h1, h2⟩ := List.pairwise_cons.1 h.srt
    have ho := h.ok e (List.mem_cons_self ..)
    have hw : Wi x k r := ⟨fun y hy => h.ok y (List.mem_cons_of_mem _ hy), h2⟩
    have ih := ih hw fun y hy => hn y (List.mem_cons_of_mem _ hy)
    have hne := half_not hk ho.2.1 (hn e (List.mem_cons_self ..))
    cases hu : underB (kidA x k 0) (k + 1) e with
    | true =>
      rw [hu] at hne
      rw [List.filter_cons_of_pos hu, List.filter_cons_of_neg (by rw [hne]; decide), List.cons_append, ← ih]
    | false =>
      rw [hu] at hne
      have hz : r.filter (underB (kidA x k 0) (k + 1)) = [] := List.filter_eq_nil_iff.2 fun y hy hyu => by
        rw [underB, Bool.and_eq_true, decide_eq_true_eq] at hyu
        have he1 : top e.p.a (k + 1) = kidA x k 1 := by
          have hne2 : underB (kidA x k 1) (k + 1) e = true := hne
          rw [underB, Bool.and_eq_true, decide_eq_true_eq] at hne2
          exact hne2.1
        have hlt := h1 y hy
        have hle : e.p.a ≤ y.p.a := by rcases hlt with h | h <;> omega
        have := top_mono (c := k + 1) hle
        have hp : 0 < 2 ^ (31 - k) := Nat.two_pow_pos _
        rw [hyu.1, he1] at this
        unfold kidA at this; omega
      rw [List.filter_cons_of_neg (by rw [hu]; decide), List.filter_cons_of_pos hne, hz, List.nil_append]
      rw [hz, List.nil_append] at ih
      rw [← ih]
theorem half_addr {x k bit : Nat} {l : List En} {e : En} (he : e ∈ halfL x k bit l) : top e.p.a (k + 1) = kidA x k bit := by
  have := (List.mem_filter.1 he).2
  rw [underB, Bool.and_eq_true, decide_eq_true_eq] at this
  exact this.1
theorem half_lt {x k : Nat} {l : List En} (hk : k < 32) (hx : top x k = x) : ∀ e ∈ halfL x k 0 l, e.p.a < kidA x k 1 := fun e he => by
  have h1 := half_addr he
  refine Nat.lt_of_not_le fun h => ?_
  have h2 := top_mono (c := k + 1) h
  rw [h1, (kid_top hk hx (bit := 1) (by omega)).1] at h2
  have hp : 0 < 2 ^ (31 - k) := Nat.two_pow_pos _
  unfold kidA at h2; omega
theorem half_ge {x k : Nat} {l : List En} : ∀ e ∈ halfL x k 1 l, kidA x k 1 ≤ e.p.a := fun e he => by
  rw [← half_addr he]; exact top_le _ _
theorem halves_k {x k : Nat} (w : World) (hk : k < 32) (hx : top x k = x) (hl : x < 4294967296) : Calls Try.prog 60 #[(⟨x, (k : Int)⟩ : Pf).val] w (Ret (.tuple #[(⟨kidA x k 0, ((k + 1 : Nat) : Int)⟩ : Pf).val, (⟨kidA x k 1, ((k + 1 : Nat) : Int)⟩ : Pf).val, .bool true]) w) := by
  have hval : (⟨x, (k : Nat)⟩ : Pf).valid = true := Pf.valid_iff.2 ⟨by simp, by simp; omega, by simpa using hx⟩
  have hof0 : Pf.of x ((k : Int) + 1) = ⟨kidA x k 0, ((k + 1 : Nat) : Int)⟩ := by
    have h3 := (kid_top hk hx (bit := 0) (by omega)).1
    have h4 : kidA x k 0 = x := by unfold kidA; omega
    rw [h4] at h3
    rw [Pf.of, h4, show ((k : Int) + 1) = ((k + 1 : Nat) : Int) by omega, lowN_nat _ _ (by omega), h3]
  have hlast : (⟨x, (k : Int)⟩ : Pf).last = x + (2 ^ (32 - k) - 1) := by rw [Pf.last, if_pos hval]; simp
  have hof1 : Pf.of (⟨x, (k : Int)⟩ : Pf).last ((k : Int) + 1) = ⟨kidA x k 1, ((k + 1 : Nat) : Int)⟩ := by
    rw [Pf.of, hlast, show ((k : Int) + 1) = ((k + 1 : Nat) : Int) by omega, lowN_nat _ _ (by omega), last_kid hx hk hl]
  have hhalf := halves_v (⟨x, (k : Int)⟩ : Pf) w hl hval (by show (k : Int) < 32; omega)
  rw [hof0, hof1] at hhalf
  exact hhalf
/-! ### The tree -/
/-- Block b is the tree t. -/
def TrM (w : World) : Tr → Nat → Prop
  | .leaf v, b => ∃ ms, Blk w b 83 [.pointer none, .pointer none, .map (some ms)] ∧ SetJ w ms [v]
  | .node x y, b => ∃ bx by_ ms, Blk w b 83 [.pointer (some ⟨bx, 0, none⟩), .pointer (some ⟨by_, 0, none⟩), .map (some ms)] ∧ SetJ w ms (joinL x.set y.set) ∧ TrM w x bx ∧ TrM w y by_
theorem TrM.ext {w w' : World} : ∀ {t : Tr} {b : Nat}, TrM w t b → Ext w w' → TrM w' t b
  | .leaf _, _, ⟨ms, h1, h2⟩, he => ⟨ms, h1.ext he, h2.ext he⟩
  | .node _ _, _, ⟨bx, by_, ms, h1, h2, h3, h4⟩, he => ⟨bx, by_, ms, h1.ext he, h2.ext he, TrM.ext h3 he, TrM.ext h4 he⟩
/-- What every tree holds. -/
theorem TrM.set {w : World} : ∀ {t : Tr} {b : Nat}, TrM w t b → ∃ p q ms, Blk w b 83 [.pointer p, .pointer q, .map (some ms)] ∧ SetJ w ms t.set
  | .leaf _, _, ⟨ms, h1, h2⟩ => ⟨none, none, ms, h1, h2⟩
  | .node _ _, _, ⟨_, _, ms, h1, h2, _, _⟩ => ⟨_, _, ms, h1, h2⟩
def TrR (t : Tr) (r : Value) (w' : World) : Prop := ∃ b, r = .pointer (some ⟨b, 0, none⟩) ∧ TrM w' t b
theorem TrR.ext {t : Tr} {r : Value} {w w' : World} (h : TrR t r w) (he : Ext w w') : TrR t r w' := by
  obtain ⟨b, h1, h2⟩ := h
  exact ⟨b, h1, h2.ext he⟩
theorem setF_one (v : Int) : (fun y' => if y' = v then some (Value.bool true) else none) = setF [v] := by
  funext y
  unfold setF
  by_cases h : y = v
  · rw [if_pos h, if_pos (List.mem_singleton.2 h)]
  · rw [if_neg h, if_neg (fun h2 => h (List.mem_singleton.1 h2))]
def popB (x k : Nat) : List En → Bool
  | [] => false
  | e :: _ => decide (e.p = ⟨x, k⟩)
set_option maxHeartbeats 4000000 in
theorem grow_v : ∀ (f x k : Nat) (l : List En) (v : Int) (ao : Option Addr) (n c : Nat) (w : World), k + f = 32 → top x k = x → x < 4294967296 → Wi x k l → Sl w ao n c l → (∀ e ∈ l, e.p.a < 4294967296) → n ≤ 1000000 →
    Calls Try.prog 40 #[(⟨x, (k : Int)⟩ : Pf).val, .slice ao n c, .int .i64 v] w (Gives (TrR (grow f x k l v)) w) := by
  intro f
  induction f with
  | zero =>
    intro x k l v ao n c w hk hx hl hW hS hLa hn
    have hpm := pop_mem hW
    have hpw := pop_wi hW
    refine V_enter (vs := [_, _, _]) Try.func40 rfl Try.ntmps40 (Nat.le_of_ble_eq_true rfl) ?_
    repeat (first | refine Vx ?_ | (apply Ops_q; (case hon => exact Va); (case hd => rfl); (case hq => exact YlA)) | refine Vr ?_ | refine Vt ?_ | refine Vf ?_ | refine Vm ?_ | refine Ve ?_ | refine Vo ?_ | refine Vz ?_)
    (refine Ops_box (by exact Va) rfl rfl rfl ?_; intro w1 b3 n_b3; have k_b3 := n_b3.blk)
    have x1 := n_b3.ext
    have hcp : Cells w1 ⟨b3, 0, none⟩ [.int .u32 x, .int .i64 k] := k_b3.cells
    have hS1 := hS.ext x1
    clear n_b3 k_b3
    repeat (first | refine Vx ?_ | (apply Ops_q; (case hon => exact Va); (case hd => rfl); (case hq => exact YlA)) | refine Vr ?_ | refine Vt ?_ | refine Vf ?_ | refine Vm ?_ | refine Ve ?_ | refine Vo ?_ | refine Vz ?_)
    refine Ops_meet [(23, .bool (popB x k l)), (1, .slice ao n c), (2, .int .i64 v), (3, .pointer (some ⟨b3, 0, none⟩))] ?_ ?_
    · cases l with
      | nil =>
        have hn0 := hS.len
        have hd : decide ((0 : Int) < (n : Int)) = false := by rw [hn0]; rfl
        repeat (first | refine Vx ?_ | (apply Ops_q; (case hon => exact Va); (case hd => rfl); (case hq => exact YlA)) | refine Vr ?_ | refine Vt ?_ | refine Vf ?_ | refine Vm ?_ | refine Ve ?_ | refine Vo ?_ | refine Vz ?_)
        refine Ops_know rfl rfl hd ?_
        repeat (first | refine Vx ?_ | (apply Ops_q; (case hon => exact Va); (case hd => rfl); (case hq => exact YlA)) | refine Vr ?_ | refine Vt ?_ | refine Vf ?_ | refine Vm ?_ | refine Ve ?_ | refine Vo ?_ | refine Vz ?_)
        exact ⟨(by repeat (first | exact trivial | refine ⟨rfl, ?_⟩)), rfl⟩
      | cons e r =>
        have hn0 := hS.len
        rw [List.length_cons] at hn0
        have hd : decide ((0 : Int) < (n : Int)) = true := decide_eq_true (by omega)
        obtain ⟨ad, rfl, hce⟩ := hS1.ens.at (k := 0) (x := e) rfl
        have hce1 : Cells w1 (ad.add (0 * 3)) [.int .u32 e.p.a, .int .i64 e.p.n] := fun j u hj => hce j u (by
          match j, hj with
          | 0, hj => exact hj
          | 1, hj => exact hj)
        have hq := eqPf_dec e.p ⟨x, (k : Int)⟩
        dsimp only at hq
        have hn1 : 0 < n := by omega
        repeat (first | refine Vx ?_ | (apply Ops_q; (case hon => exact Va); (case hd => rfl); (case hq => exact YlA)) | refine Vr ?_ | refine Vt ?_ | refine Vf ?_ | refine Vm ?_ | refine Ve ?_ | refine Vo ?_ | refine Vz ?_)
        refine Ops_know rfl rfl hd ?_
        repeat (first | refine Vx ?_ | (apply Ops_q; (case hon => exact Va); (case hd => rfl); (case hq => exact YlA)) | refine Vr ?_ | refine Vt ?_ | refine Vf ?_ | refine Vm ?_ | refine Ve ?_ | refine Vo ?_ | refine Vz ?_)
        (apply Ops_q; (case hon => (exact Va)); (case hd => rfl); (case hq => exact Yl_indexS (j := 0) rfl rfl (by omega)))
        repeat (first | refine Vx ?_ | (apply Ops_q; (case hon => exact Va); (case hd => rfl); (case hq => exact YlA)) | refine Vr ?_ | refine Vt ?_ | refine Vf ?_ | refine Vm ?_ | refine Ve ?_ | refine Vo ?_ | refine Vz ?_)
        rw [hq]
        exact ⟨(by repeat (first | exact trivial | refine ⟨rfl, ?_⟩)), rfl⟩
    repeat (first | refine Vx ?_ | (apply Ops_q; (case hon => exact Va); (case hd => rfl); (case hq => exact YlA)) | refine Vr ?_ | refine Vt ?_ | refine Vf ?_ | refine Vm ?_ | refine Ve ?_ | refine Vo ?_ | refine Vz ?_)
    refine V_meet1 (fun s : Option Addr × Nat × Nat => [(1, .slice s.1 s.2.1 s.2.2), (2, .int .i64 (popV x k v l)), (3, .pointer (some ⟨b3, 0, none⟩))]) (fun s w' => w' = w1 ∧ Sl w1 s.1 s.2.1 s.2.2 (popL x k l)) ?_ ?_
    · refine V_cond rfl (fun hc => ?_) (fun hc => ?_)
      · cases l with
        | nil => cases hc
        | cons e r =>
          have he : e.p = ⟨x, k⟩ := of_decide_eq_true hc
          have hn0 := hS.len
          rw [List.length_cons] at hn0
          obtain ⟨ad, rfl, hce⟩ := hS1.ens.at (k := 0) (x := e) rfl
          have hcv : w1.cell? ((ad.add (0 * 3)).add 2) = some (.int .i64 e.v) := hce 2 _ rfl
          have hlo : Sl w1 (cutA (some ad) 1 c 3) (n - 1) (c - 1) r := Sl.lo (A := [e]) (B := r) hS1
          have hcap := hS.cap
          have hn1 : 0 < n := by omega
          repeat (first | refine Vx ?_ | (apply Ops_q; (case hon => exact Va); (case hd => rfl); (case hq => exact YlA)) | refine Vr ?_ | refine Vt ?_ | refine Vf ?_ | refine Vm ?_ | refine Ve ?_ | refine Vo ?_ | refine Vz ?_)
          (apply Ops_q; (case hon => (exact Va)); (case hd => rfl); (case hq => exact Yl_indexS (j := 0) rfl rfl (by omega)))
          repeat (first | refine Vx ?_ | (apply Ops_q; (case hon => exact Va); (case hd => rfl); (case hq => exact YlA)) | refine Vr ?_ | refine Vt ?_ | refine Vf ?_ | refine Vm ?_ | refine Ve ?_ | refine Vo ?_ | refine Vz ?_)
          (apply Ops_q; (case hon => (exact Va)); (case hd => rfl); (case hq => exact Yl_sliceLo (i := 1) rfl rfl (by omega) hcap))
          repeat (first | refine Vx ?_ | (apply Ops_q; (case hon => exact Va); (case hd => rfl); (case hq => exact YlA)) | refine Vr ?_ | refine Vt ?_ | refine Vf ?_ | refine Vm ?_ | refine Ve ?_ | refine Vo ?_ | refine Vz ?_)
          refine ⟨(cutA (some ad) 1 c 3, n - 1, c - 1), ?_, rfl, ?_⟩
          · dsimp only
            rw [popV, if_pos he]
            exact (by repeat (first | exact trivial | refine ⟨rfl, ?_⟩))
          · rw [popL, if_pos he]; exact hlo
      · have hpl : popL x k l = l ∧ popV x k v l = v := by
          cases l with
          | nil => exact ⟨rfl, rfl⟩
          | cons e r =>
            have he : ¬e.p = ⟨x, k⟩ := of_decide_eq_false hc
            rw [popL, popV, if_neg he, if_neg he]; exact ⟨rfl, rfl⟩
        repeat (first | refine Vx ?_ | (apply Ops_q; (case hon => exact Va); (case hd => rfl); (case hq => exact YlA)) | refine Vr ?_ | refine Vt ?_ | refine Vf ?_ | refine Vm ?_ | refine Ve ?_ | refine Vo ?_ | refine Vz ?_)
        refine ⟨(ao, n, c), ?_, rfl, by rw [hpl.1]; exact hS1⟩
        dsimp only
        rw [hpl.2]
        exact (by repeat (first | exact trivial | refine ⟨rfl, ?_⟩))
    rintro ⟨ao2, n2, c2⟩ w1' ⟨rfl, hS2⟩
    dsimp only at hS2 ⊢
    have hk' : k = 32 := by omega
    have hp0 : popL x k l = [] := by subst hk'; exact wi_full hW
    have hn2 := hS2.len
    rw [hp0, List.length_nil] at hn2
    subst hn2
    rw [grow]
    repeat (first | refine Vx ?_ | (apply Ops_q; (case hon => exact Va); (case hd => rfl); (case hq => exact YlA)) | refine Vr ?_ | refine Vt ?_ | refine Vf ?_ | refine Vm ?_ | refine Ve ?_ | refine Vo ?_ | refine Vz ?_)
    refine Ops_makeMapJ (k := .i64) (by exact Va) rfl ?_
    intro w2 bm x2 hbm hm
    repeat (first | refine Vx ?_ | (apply Ops_q; (case hon => exact Va); (case hd => rfl); (case hq => exact YlA)) | refine Vr ?_ | refine Vt ?_ | refine Vf ?_ | refine Vm ?_ | refine Ve ?_ | refine Vo ?_ | refine Vz ?_)
    refine Ops_insertJ (v := .bool true) (by exact Va) rfl rfl rfl hm ?_
    intro w3 g3 hm3
    have x3 : Ext w w3 := Mod.ext_of (x1.trans x2) ((Mod.of_ext (S := fun c => c = bm) (Ext.refl w2)).grow g3 (fun b hb => .inl (by cases hb; rfl))) (fun c hc => by rw [hc]; exact Nat.le_trans x1.size hbm)
    have hm4 : SetJ w3 bm [popV x k v l] := by
      unfold SetJ
      rw [setF_one] at hm3
      exact hm3
    repeat (first | refine Vx ?_ | (apply Ops_q; (case hon => exact Va); (case hd => rfl); (case hq => exact YlA)) | refine Vr ?_ | refine Vt ?_ | refine Vf ?_ | refine Vm ?_ | refine Ve ?_ | refine Vo ?_ | refine Vz ?_)
    (refine Ops_box (by exact Va) rfl rfl rfl ?_; intro w4 b4 n_b4; have k_b4 := n_b4.blk)
    repeat (first | refine Vx ?_ | (apply Ops_q; (case hon => exact Va); (case hd => rfl); (case hq => exact YlA)) | refine Vr ?_ | refine Vt ?_ | refine Vf ?_ | refine Vm ?_ | refine Ve ?_ | refine Vo ?_ | refine Vz ?_)
    refine ret1 (by first | exact .inl rfl | exact .inr rfl) rfl rfl ?_
    exact Gives_mk (fun w' he => ⟨b4, rfl, bm, (n_b4.blk).ext he, hm4.ext (n_b4.ext.trans he)⟩) (x3.trans n_b4.ext)
  | succ f ih =>
    intro x k l v ao n c w hk hx hl hW hS hLa hn
    have hpm := pop_mem hW
    have hpw := pop_wi hW
    refine V_enter (vs := [_, _, _]) Try.func40 rfl Try.ntmps40 (Nat.le_of_ble_eq_true rfl) ?_
    repeat (first | refine Vx ?_ | (apply Ops_q; (case hon => exact Va); (case hd => rfl); (case hq => exact YlA)) | refine Vr ?_ | refine Vt ?_ | refine Vf ?_ | refine Vm ?_ | refine Ve ?_ | refine Vo ?_ | refine Vz ?_)
    (refine Ops_box (by exact Va) rfl rfl rfl ?_; intro w1 b3 n_b3; have k_b3 := n_b3.blk)
    have x1 := n_b3.ext
    have hcp : Cells w1 ⟨b3, 0, none⟩ [.int .u32 x, .int .i64 k] := k_b3.cells
    have hS1 := hS.ext x1
    clear n_b3 k_b3
    repeat (first | refine Vx ?_ | (apply Ops_q; (case hon => exact Va); (case hd => rfl); (case hq => exact YlA)) | refine Vr ?_ | refine Vt ?_ | refine Vf ?_ | refine Vm ?_ | refine Ve ?_ | refine Vo ?_ | refine Vz ?_)
    refine Ops_meet [(23, .bool (popB x k l)), (1, .slice ao n c), (2, .int .i64 v), (3, .pointer (some ⟨b3, 0, none⟩))] ?_ ?_
    · cases l with
      | nil =>
        have hn0 := hS.len
        have hd : decide ((0 : Int) < (n : Int)) = false := by rw [hn0]; rfl
        repeat (first | refine Vx ?_ | (apply Ops_q; (case hon => exact Va); (case hd => rfl); (case hq => exact YlA)) | refine Vr ?_ | refine Vt ?_ | refine Vf ?_ | refine Vm ?_ | refine Ve ?_ | refine Vo ?_ | refine Vz ?_)
        refine Ops_know rfl rfl hd ?_
        repeat (first | refine Vx ?_ | (apply Ops_q; (case hon => exact Va); (case hd => rfl); (case hq => exact YlA)) | refine Vr ?_ | refine Vt ?_ | refine Vf ?_ | refine Vm ?_ | refine Ve ?_ | refine Vo ?_ | refine Vz ?_)
        exact ⟨(by repeat (first | exact trivial | refine ⟨rfl, ?_⟩)), rfl⟩
      | cons e r =>
        have hn0 := hS.len
        rw [List.length_cons] at hn0
        have hd : decide ((0 : Int) < (n : Int)) = true := decide_eq_true (by omega)
        obtain ⟨ad, rfl, hce⟩ := hS1.ens.at (k := 0) (x := e) rfl
        have hce1 : Cells w1 (ad.add (0 * 3)) [.int .u32 e.p.a, .int .i64 e.p.n] := fun j u hj => hce j u (by
          match j, hj with
          | 0, hj => exact hj
          | 1, hj => exact hj)
        have hq := eqPf_dec e.p ⟨x, (k : Int)⟩
        dsimp only at hq
        have hn1 : 0 < n := by omega
        repeat (first | refine Vx ?_ | (apply Ops_q; (case hon => exact Va); (case hd => rfl); (case hq => exact YlA)) | refine Vr ?_ | refine Vt ?_ | refine Vf ?_ | refine Vm ?_ | refine Ve ?_ | refine Vo ?_ | refine Vz ?_)
        refine Ops_know rfl rfl hd ?_
        repeat (first | refine Vx ?_ | (apply Ops_q; (case hon => exact Va); (case hd => rfl); (case hq => exact YlA)) | refine Vr ?_ | refine Vt ?_ | refine Vf ?_ | refine Vm ?_ | refine Ve ?_ | refine Vo ?_ | refine Vz ?_)
        (apply Ops_q; (case hon => (exact Va)); (case hd => rfl); (case hq => exact Yl_indexS (j := 0) rfl rfl (by omega)))
        repeat (first | refine Vx ?_ | (apply Ops_q; (case hon => exact Va); (case hd => rfl); (case hq => exact YlA)) | refine Vr ?_ | refine Vt ?_ | refine Vf ?_ | refine Vm ?_ | refine Ve ?_ | refine Vo ?_ | refine Vz ?_)
        rw [hq]
        exact ⟨(by repeat (first | exact trivial | refine ⟨rfl, ?_⟩)), rfl⟩
    repeat (first | refine Vx ?_ | (apply Ops_q; (case hon => exact Va); (case hd => rfl); (case hq => exact YlA)) | refine Vr ?_ | refine Vt ?_ | refine Vf ?_ | refine Vm ?_ | refine Ve ?_ | refine Vo ?_ | refine Vz ?_)
    refine V_meet1 (fun s : Option Addr × Nat × Nat => [(1, .slice s.1 s.2.1 s.2.2), (2, .int .i64 (popV x k v l)), (3, .pointer (some ⟨b3, 0, none⟩))]) (fun s w' => w' = w1 ∧ Sl w1 s.1 s.2.1 s.2.2 (popL x k l)) ?_ ?_
    · refine V_cond rfl (fun hc => ?_) (fun hc => ?_)
      · cases l with
        | nil => cases hc
        | cons e r =>
          have he : e.p = ⟨x, k⟩ := of_decide_eq_true hc
          have hn0 := hS.len
          rw [List.length_cons] at hn0
          obtain ⟨ad, rfl, hce⟩ := hS1.ens.at (k := 0) (x := e) rfl
          have hcv : w1.cell? ((ad.add (0 * 3)).add 2) = some (.int .i64 e.v) := hce 2 _ rfl
          have hlo : Sl w1 (cutA (some ad) 1 c 3) (n - 1) (c - 1) r := Sl.lo (A := [e]) (B := r) hS1
          have hcap := hS.cap
          have hn1 : 0 < n := by omega
          repeat (first | refine Vx ?_ | (apply Ops_q; (case hon => exact Va); (case hd => rfl); (case hq => exact YlA)) | refine Vr ?_ | refine Vt ?_ | refine Vf ?_ | refine Vm ?_ | refine Ve ?_ | refine Vo ?_ | refine Vz ?_)
          (apply Ops_q; (case hon => (exact Va)); (case hd => rfl); (case hq => exact Yl_indexS (j := 0) rfl rfl (by omega)))
          repeat (first | refine Vx ?_ | (apply Ops_q; (case hon => exact Va); (case hd => rfl); (case hq => exact YlA)) | refine Vr ?_ | refine Vt ?_ | refine Vf ?_ | refine Vm ?_ | refine Ve ?_ | refine Vo ?_ | refine Vz ?_)
          (apply Ops_q; (case hon => (exact Va)); (case hd => rfl); (case hq => exact Yl_sliceLo (i := 1) rfl rfl (by omega) hcap))
          repeat (first | refine Vx ?_ | (apply Ops_q; (case hon => exact Va); (case hd => rfl); (case hq => exact YlA)) | refine Vr ?_ | refine Vt ?_ | refine Vf ?_ | refine Vm ?_ | refine Ve ?_ | refine Vo ?_ | refine Vz ?_)
          refine ⟨(cutA (some ad) 1 c 3, n - 1, c - 1), ?_, rfl, ?_⟩
          · dsimp only
            rw [popV, if_pos he]
            exact (by repeat (first | exact trivial | refine ⟨rfl, ?_⟩))
          · rw [popL, if_pos he]; exact hlo
      · have hpl : popL x k l = l ∧ popV x k v l = v := by
          cases l with
          | nil => exact ⟨rfl, rfl⟩
          | cons e r =>
            have he : ¬e.p = ⟨x, k⟩ := of_decide_eq_false hc
            rw [popL, popV, if_neg he, if_neg he]; exact ⟨rfl, rfl⟩
        repeat (first | refine Vx ?_ | (apply Ops_q; (case hon => exact Va); (case hd => rfl); (case hq => exact YlA)) | refine Vr ?_ | refine Vt ?_ | refine Vf ?_ | refine Vm ?_ | refine Ve ?_ | refine Vo ?_ | refine Vz ?_)
        refine ⟨(ao, n, c), ?_, rfl, by rw [hpl.1]; exact hS1⟩
        dsimp only
        rw [hpl.2]
        exact (by repeat (first | exact trivial | refine ⟨rfl, ?_⟩))
    rintro ⟨ao2, n2, c2⟩ w1' ⟨rfl, hS2⟩
    dsimp only at hS2 ⊢
    have hk32 : k < 32 := by omega
    rw [grow]
    have hn2 := hS2.len
    have hn2n : n2 ≤ n := by
      have h1 := hS.len
      have : (popL x k l).length ≤ l.length := by
        cases l with
        | nil => exact Nat.le_refl _
        | cons e r => rw [popL]; split <;> simp
      omega
    by_cases hp0 : popL x k l = []
    · rw [hp0, List.length_nil] at hn2
      subst hn2
      rw [if_pos (by rw [hp0]; rfl)]
      repeat (first | refine Vx ?_ | (apply Ops_q; (case hon => exact Va); (case hd => rfl); (case hq => exact YlA)) | refine Vr ?_ | refine Vt ?_ | refine Vf ?_ | refine Vm ?_ | refine Ve ?_ | refine Vo ?_ | refine Vz ?_)
      refine Ops_makeMapJ (k := .i64) (by exact Va) rfl ?_
      intro w2 bm x2 hbm hm
      repeat (first | refine Vx ?_ | (apply Ops_q; (case hon => exact Va); (case hd => rfl); (case hq => exact YlA)) | refine Vr ?_ | refine Vt ?_ | refine Vf ?_ | refine Vm ?_ | refine Ve ?_ | refine Vo ?_ | refine Vz ?_)
      refine Ops_insertJ (v := .bool true) (by exact Va) rfl rfl rfl hm ?_
      intro w3 g3 hm3
      have x3 : Ext w w3 := Mod.ext_of (x1.trans x2) ((Mod.of_ext (S := fun c => c = bm) (Ext.refl w2)).grow g3 (fun b hb => .inl (by cases hb; rfl))) (fun c hc => by rw [hc]; exact Nat.le_trans x1.size hbm)
      have hm4 : SetJ w3 bm [popV x k v l] := by
        unfold SetJ
        rw [setF_one] at hm3
        exact hm3
      repeat (first | refine Vx ?_ | (apply Ops_q; (case hon => exact Va); (case hd => rfl); (case hq => exact YlA)) | refine Vr ?_ | refine Vt ?_ | refine Vf ?_ | refine Vm ?_ | refine Ve ?_ | refine Vo ?_ | refine Vz ?_)
      (refine Ops_box (by exact Va) rfl rfl rfl ?_; intro w4 b4 n_b4; have k_b4 := n_b4.blk)
      repeat (first | refine Vx ?_ | (apply Ops_q; (case hon => exact Va); (case hd => rfl); (case hq => exact YlA)) | refine Vr ?_ | refine Vt ?_ | refine Vf ?_ | refine Vm ?_ | refine Ve ?_ | refine Vo ?_ | refine Vz ?_)
      refine ret1 (by first | exact .inl rfl | exact .inr rfl) rfl rfl ?_
      exact Gives_mk (fun w' he => ⟨b4, rfl, bm, (n_b4.blk).ext he, hm4.ext (n_b4.ext.trans he)⟩) (x3.trans n_b4.ext)
    rw [if_neg (by rw [List.isEmpty_iff]; exact hp0)]
    have hnz : decide ((n2 : Int) = 0) = false := decide_eq_false (fun e => hp0 (List.length_eq_zero_iff.1 (by omega)))
    have hsp := half_split hk32 hpw (fun e he => (hpm e he).2)
    have hA1 := half_lt (l := popL x k l) hk32 hx
    have hB1 := half_ge (x := x) (k := k) (l := popL x k l)
    have hv' : ∀ e ∈ popL x k l, e.p.valid = true := fun e he => (hpw.ok e he).1
    have wA := half_wi (x := x) (k := k) (bit := 0) hpw.srt hv'
    have wB := half_wi (x := x) (k := k) (bit := 1) hpw.srt hv'
    have aA : ∀ e ∈ halfL x k 0 (popL x k l), e.p.a < 4294967296 := fun e he => hLa e (hpm e (half_sub he)).1
    have aB : ∀ e ∈ halfL x k 1 (popL x k l), e.p.a < 4294967296 := fun e he => hLa e (hpm e (half_sub he)).1
    have hh := fun w => halves_k (x := x) (k := k) w hk32 hx hl
    have t0 := (kid_top hk32 hx (bit := 0) (by omega)).1
    have t1 := (kid_top hk32 hx (bit := 1) (by omega)).1
    have l0 := kid_lt hk32 hx (bit := 0) (by omega) hl
    have l1 := kid_lt hk32 hx (bit := 1) (by omega) hl
    generalize halfL x k 0 (popL x k l) = A at *
    generalize halfL x k 1 (popL x k l) = B at *
    generalize popV x k v l = v' at *
    generalize kidA x k 0 = y0 at *
    generalize kidA x k 1 = y1 at *
    rw [hsp] at hS2 hn2
    have hAn : A.length ≤ 1000000 ∧ (A ++ B).length ≤ 1000000 := by rw [List.length_append] at hn2 ⊢; omega
    subst hn2
    have g0 := fun ao n c w => ih y0 (k + 1) A v' ao n c w (by omega) t0 l0 wA
    have g1 := fun ao n c w => ih y1 (k + 1) B v' ao n c w (by omega) t1 l1 wB
    generalize grow f y0 (k + 1) A v' = T0 at *
    generalize grow f y1 (k + 1) B v' = T1 at *
    have hsH := hS2.hi
    have hsL := hS2.lo
    have hcap := hS2.cap
    clear ih hpm hpw hv' hsp hp0 hS1 hS hW hLa
    repeat (first | refine Vx ?_ | (apply Ops_q; (case hon => exact Va); (case hd => rfl); (case hq => exact YlA)) | refine Vr ?_ | refine Vt ?_ | refine Vf ?_ | refine Vm ?_ | refine Ve ?_ | refine Vo ?_ | refine Vz ?_)
    refine V_no rfl hnz ?_
    repeat (first | refine Vx ?_ | (apply Ops_q; (case hon => exact Va); (case hd => rfl); (case hq => exact YlA)) | refine Vr ?_ | refine Vt ?_ | refine Vf ?_ | refine Vm ?_ | refine Ve ?_ | refine Vo ?_ | refine Vz ?_)
    (apply Ops_q; (case hon => (exact Va)); (case hd => rfl); (case hq => exact Yl_call rfl (fun w_ e_ => hh w_)))
    repeat (first | refine Vx ?_ | (apply Ops_q; (case hon => exact Va); (case hd => rfl); (case hq => exact YlA)) | refine Vr ?_ | refine Vt ?_ | refine Vf ?_ | refine Vm ?_ | refine Ve ?_ | refine Vo ?_ | refine Vz ?_)
    (refine Ops_alloc (by exact Va) rfl ?_; intro w2 b7 n_b7; have k_b7 := n_b7.blk)
    repeat (first | refine Vx ?_ | (apply Ops_q; (case hon => exact Va); (case hd => rfl); (case hq => exact YlA)) | refine Vr ?_ | refine Vt ?_ | refine Vf ?_ | refine Vm ?_ | refine Ve ?_ | refine Vo ?_ | refine Vz ?_)
    (refine Ops_alloc (by exact Va) rfl ?_; intro w3 b8 n_b8; have k_b8 := n_b8.blk)
    have ne_b7_b8 : b7 ≠ b8 := Nat.ne_of_lt (Nat.lt_of_lt_of_le k_b7.lt n_b8.ge)
    replace k_b7 := k_b7.ext n_b8.ext
    repeat (first | refine Vx ?_ | (apply Ops_q; (case hon => exact Va); (case hd => rfl); (case hq => exact YlA)) | refine Vr ?_ | refine Vt ?_ | refine Vf ?_ | refine Vm ?_ | refine Ve ?_ | refine Vo ?_ | refine Vz ?_)
    (refine Ops_store (by exact Va) rfl rfl (by assumption) (by first | rfl | exact OneAll.h) ?_; intro w4 u_w4; have k_b7 := u_w4.blk)
    replace k_b8 := u_w4.keep k_b8 (Ne.symm ne_b7_b8)
    repeat (first | refine Vx ?_ | (apply Ops_q; (case hon => exact Va); (case hd => rfl); (case hq => exact YlA)) | refine Vr ?_ | refine Vt ?_ | refine Vf ?_ | refine Vm ?_ | refine Ve ?_ | refine Vo ?_ | refine Vz ?_)
    (refine Ops_store (by exact Va) rfl rfl (by assumption) (by first | rfl | exact OneAll.h) ?_; intro w5 u_w5; have k_b8 := u_w5.blk)
    replace k_b7 := u_w5.keep k_b7 ne_b7_b8
    have x5 : Ext w1' w5 := u_w5.below (u_w4.below (n_b7.ext.trans n_b8.ext) n_b7.ge) (Nat.le_trans n_b7.ext.size n_b8.ge)
    have hS5 := hS2.ext x5
    have h50 : Cells w5 ⟨b7, 0, none⟩ [.int .u32 y0, .int .i64 ((k + 1 : Nat) : Int)] := k_b7.cells
    have h51 : Cells w5 ⟨b8, 0, none⟩ [.int .u32 y1, .int .i64 ((k + 1 : Nat) : Int)] := k_b8.cells
    have x15 := x5
    replace x5 := x1.trans x5
    clear u_w5 u_w4 n_b7 n_b8 k_b7 k_b8 hS2 hcp
    repeat (first | refine Vx ?_ | (apply Ops_q; (case hon => exact Va); (case hd => rfl); (case hq => exact YlA)) | refine Vr ?_ | refine Vt ?_ | refine Vf ?_ | refine Vm ?_ | refine Ve ?_ | refine Vo ?_ | refine Vz ?_)
    (apply Ops_q; (case hon => (exact Va)); (case hd => rfl); (case hq => exact Yl_call rfl (fun w_ e_ => bsearch_v ao2 A B c2 ⟨y1, ((k + 1 : Nat) : Int)⟩ w_ (hS5.ens.ext e_) hA1 hB1 hAn.2)))
    repeat (first | refine Vx ?_ | (apply Ops_q; (case hon => exact Va); (case hd => rfl); (case hq => exact YlA)) | refine Vt ?_ | refine Vf ?_ | refine Vm ?_ | refine Ve ?_ | refine Vo ?_ | refine Vz ?_)
    refine V_give2 12 5 11 (TrR T0) (TrR T1) (fun _ _ _ he h => h.ext he) (fun _ _ _ he h => h.ext he) (by kernel_rfl) rfl rfl rfl rfl rfl (by kernel_rfl) rfl rfl rfl ?_
    repeat (first | (apply YsG.q; (case h2 => rfl); (case h3 => rfl); (case hq => exact YlA)) | refine YsG.nil rfl ?_)
    (apply YsG.q; (case h2 => rfl); (case h3 => rfl); (case hq => exact Yl_sliceHi (i := A.length) rfl rfl (by rw [List.length_append]; omega) hcap))
    repeat (first | (apply YsG.q; (case h2 => rfl); (case h3 => rfl); (case hq => exact YlA)) | refine YsG.nil rfl ?_)
    refine ⟨Gvs_call rfl (fun w_ e_ => g0 ao2 A.length c2 w_ (hsH.ext (x15.trans e_)) aA hAn.1), ?_⟩
    repeat (first | (apply YsG.q; (case h2 => rfl); (case h3 => rfl); (case hq => exact YlA)) | refine YsG.nil rfl ?_)
    (apply YsG.q; (case h2 => rfl); (case h3 => rfl); (case hq => exact Yl_sliceLo (i := A.length) rfl rfl (by rw [List.length_append]; omega) hcap))
    repeat (first | (apply YsG.q; (case h2 => rfl); (case h3 => rfl); (case hq => exact YlA)) | refine YsG.nil rfl ?_)
    refine ⟨Gvs_call rfl (fun w_ e_ => g1 _ _ _ w_ (hsL.ext (x15.trans e_)) aB (by rw [List.length_append] at hAn ⊢; omega)), ?_⟩
    repeat (first | (apply YsG.q; (case h2 => rfl); (case h3 => rfl); (case hq => exact YlA)) | refine YsG.nil rfl ?_)
    rintro _ _ w6 x6 ⟨bx, rfl, hT0⟩ ⟨by_, rfl, hT1⟩
    have x16 := x5.trans x6
    clear h50 h51 hS5 hsH hsL g0 g1 x15 hh
    repeat (first | refine Vx ?_ | (apply Ops_q; (case hon => exact Va); (case hd => rfl); (case hq => exact YlA)) | refine Vr ?_ | refine Vt ?_ | refine Vf ?_ | refine Vm ?_ | refine Ve ?_ | refine Vo ?_ | refine Vz ?_)
    (apply Ops_q; (case hon => (exact Va)); (case hd => rfl); (case hq => exact Yl_kids rfl))
    repeat (first | refine Vx ?_ | (apply Ops_q; (case hon => exact Va); (case hd => rfl); (case hq => exact YlA)) | refine Vr ?_ | refine Vt ?_ | refine Vf ?_ | refine Vm ?_ | refine Ve ?_ | refine Vo ?_ | refine Vz ?_)
    (refine Ops_box (by exact Va) rfl rfl rfl ?_; intro w7 b12 n_b12; have k_b12 := n_b12.blk)
    have hU0 := hT0
    have hU1 := hT1
    replace hT0 := hT0.ext n_b12.ext
    replace hT1 := hT1.ext n_b12.ext
    have x7 := x16.trans n_b12.ext
    have hb12 := Nat.le_trans x16.size n_b12.ge
    obtain ⟨p0, q0, m0, k0, s0⟩ := hT0.set
    obtain ⟨p1, q1, m1, k1, s1⟩ := hT1.set
    repeat (first | refine Vx ?_ | (apply Ops_q; (case hon => exact Va); (case hd => rfl); (case hq => exact YlA)) | refine Vt ?_ | refine Vf ?_ | refine Vm ?_ | refine Ve ?_ | refine Vo ?_ | refine Vz ?_)
    refine V_give1 18 17 (fun r w' => ∃ b, r = .map (some b) ∧ SetJ w' b (joinL T0.set T1.set)) (fun _ _ _ he ⟨b, h1, h2⟩ => ⟨b, h1, h2.ext he⟩) (by kernel_rfl) rfl rfl rfl (by kernel_rfl) rfl ?_
    repeat (first | (apply YsG.q; (case h2 => rfl); (case h3 => rfl); (case hq => exact YlA)) | refine YsG.nil rfl ?_)
    (apply YsG.q; (case h2 => rfl); (case h3 => rfl); (case hq => exact Yl_indexA (j := 0) rfl rfl (by first | exact Nat.le_of_ble_eq_true rfl | omega)))
    repeat (first | (apply YsG.q; (case h2 => rfl); (case h3 => rfl); (case hq => exact YlA)) | refine YsG.nil rfl ?_)
    (apply YsG.q; (case h2 => rfl); (case h3 => rfl); (case hq => exact Yl_indexA (j := 1) rfl rfl (by first | exact Nat.le_of_ble_eq_true rfl | omega)))
    repeat (first | (apply YsG.q; (case h2 => rfl); (case h3 => rfl); (case hq => exact YlA)) | refine YsG.nil rfl ?_)
    refine ⟨Gvs_call rfl (fun w_ e_ => (joined_v m0 m1 T0.set T1.set w_ (s0.ext e_) (s1.ext e_)).mono fun e w' ⟨r, h1, h2, b, h3, h4, _⟩ => ⟨r, h1, h2, b, h3, h4⟩), ?_⟩
    repeat (first | (apply YsG.q; (case h2 => rfl); (case h3 => rfl); (case hq => exact YlA)) | refine YsG.nil rfl ?_)
    rintro _ w8 x8 ⟨bj, rfl, hJ⟩
    have k12 := k_b12.ext x8
    replace hT0 := hT0.ext x8
    replace hT1 := hT1.ext x8
    clear k0 k1 s0 s1
    repeat (first | refine Vx ?_ | (apply Ops_q; (case hon => exact Va); (case hd => rfl); (case hq => exact YlA)) | refine Vr ?_ | refine Vt ?_ | refine Vf ?_ | refine Vm ?_ | refine Ve ?_ | refine Vo ?_ | refine Vz ?_)
    refine Ops_store (by exact Va) rfl rfl k12 (by first | rfl | exact OneAll.h) ?_
    intro w9 u9
    have k12' := u9.blk
    have hb12' : w7.heap.size ≤ w8.heap.size := x8.size
    have hx9 : Ext w6 w9 := u9.below (n_b12.ext.trans x8) n_b12.ge
    have x9 : Ext w w9 := u9.below (x7.trans x8) hb12
    have hJ9 : SetJ w9 bj (joinL T0.set T1.set) := MapJ.same hJ (u9.other bj (fun e => by
      subst e
      obtain ⟨es, cl, hh, _⟩ := hJ
      have := k12
      unfold Blk at this
      rw [hh] at this; cases this))
    repeat (first | refine Vx ?_ | (apply Ops_q; (case hon => exact Va); (case hd => rfl); (case hq => exact YlA)) | refine Vr ?_ | refine Vt ?_ | refine Vf ?_ | refine Vm ?_ | refine Ve ?_ | refine Vo ?_ | refine Vz ?_)
    refine ret1 (by first | exact .inl rfl | exact .inr rfl) rfl rfl ?_
    exact Gives_mk (fun w' he => ⟨b12, rfl, bx, by_, bj, k12'.ext he, hJ9.ext he, (hU0.ext hx9).ext he, (hU1.ext hx9).ext he⟩) x9
end Go.Proofs.Ytkiidmbkibfbiaa

/-
  Tables (layer 7): choose and Minimal.
  Conditions: the lists are not too long for a machine.
-/
namespace Go.Proofs.Ytkiidmbkibfbiaa
open Go.RowKit

theorem Tr.fits_le : ∀ {t : Tr} {k : Nat}, t.fits k → k ≤ 32 → t.cost + 1 ≤ 2 ^ (32 - k)
  | .leaf _, k, _, _ => Nat.two_pow_pos _
  | .node a b, k, ⟨hk, fa, fb⟩, _ => by
    have h1 := Tr.fits_le fa (by omega)
    have h2 := Tr.fits_le fb (by omega)
    rw [Tr.cost, pow_up hk]
    rw [show 32 - (k + 1) = 31 - k by omega] at h1 h2
    split <;> omega
/-- What choose leaves. -/
def ChR (base : Nat) (out : Value) (M : List En) (w : World) (r : Value) (w' : World) : Prop := Own w' base 40 3 r (M.map En.cells) ∧ ∀ c, r.ownBlock = some c → out.ownBlock = some c ∨ w.heap.size ≤ c
set_option maxHeartbeats 4000000 in
theorem choose_v (w0 : World) (base : Nat) (h0 : w0.heap.size ≤ base) : ∀ (t : Tr) (x k : Nat) (v : Int) (b : Nat) (out : Value) (M : List En) (w : World), t.fits k → top x k = x → x < 4294967296 → k ≤ 32 → TrM w0 t b → Ext w0 w → Own w base 40 3 out (M.map En.cells) → base ≤ w.heap.size → M.length + (choose t x k v).length ≤ 1000000 →
    Calls Try.prog 39 #[out, (⟨x, (k : Int)⟩ : Pf).val, .pointer (some ⟨b, 0, none⟩), .int .i64 v] w (Does (fun c => out.ownBlock = some c) (ChR base out (M ++ choose t x k v) w) w) := by
  intro t
  induction t with
  | leaf u =>
    intro x k v b out M w hf hx hl hk hT e0 hO hb hM
    have hkid : ∃ ms, Blk w0 b 83 [.pointer none, .pointer none, .map (some ms)] := by
      obtain ⟨ms, h, _⟩ := hT; exact ⟨ms, h⟩
    rw [choose] at hM ⊢
    obtain ⟨p0, q0, ms, kb0, hs0⟩ := hT.set
    change SetJ w0 ms [u] at hs0
    refine V_enter (vs := [_, _, _, _]) Try.func39 rfl Try.ntmps39 (Nat.le_of_ble_eq_true rfl) ?_
    repeat (first | refine Vx ?_ | (apply Ops_q; (case hon => exact Va); (case hd => rfl); (case hq => exact YlA)) | refine Vr ?_ | refine Vt ?_ | refine Vf ?_ | refine Vm ?_ | refine Ve ?_ | refine Vo ?_ | refine Vz ?_)
    (refine Ops_box (by exact Va) rfl rfl rfl ?_; intro w1 b5 n_b5; have k_b5 := n_b5.blk)
    have x1 := n_b5.ext
    have kb1 := kb0.ext (e0.trans x1)
    have hs1 := hs0.ext (e0.trans x1)
    have o1 := hO.ext x1
    have hob5 : out.ownBlock ≠ some b5 := fun e => by have := hO.lt e; have := n_b5.ge; omega
    have hb5 := n_b5.ge
    clear n_b5
    repeat (first | refine Vx ?_ | (apply Ops_q; (case hon => exact Va); (case hd => rfl); (case hq => exact YlA)) | refine Vr ?_ | refine Vt ?_ | refine Vf ?_ | refine Vm ?_ | refine Ve ?_ | refine Vo ?_ | refine Vz ?_)
    (apply Ops_q; (case hon => (exact Va)); (case hd => rfl); (case hq => exact Yl_inSet rfl rfl (hs1)))
    repeat (first | refine Vx ?_ | (apply Ops_q; (case hon => exact Va); (case hd => rfl); (case hq => exact YlA)) | refine Vr ?_ | refine Vt ?_ | refine Vf ?_ | refine Vm ?_ | refine Ve ?_ | refine Vo ?_ | refine Vz ?_)
    refine V_meet1 (fun s : Value => [(0, s), (3, .int .i64 (pick [u] v)), (2, .pointer (some ⟨b, 0, none⟩)), (5, .pointer (some ⟨b5, 0, none⟩))])
      (fun s w' => Mod (fun c => out.ownBlock = some c) w w' ∧ Own w' base 40 3 s ((M ++ choose1 [u] x k v).map En.cells) ∧ (∀ c, s.ownBlock = some c → out.ownBlock = some c ∨ w.heap.size ≤ c) ∧ Blk w' b5 38 [.int .u32 x, .int .i64 k] ∧ s.ownBlock ≠ some b5) ?_ ?_
    · by_cases hv : v ∈ [u]
      · have hd : (!decide (v ∈ [u])) = false := by rw [decide_eq_true hv]; rfl
        refine V_no rfl hd ?_
        repeat (first | refine Vx ?_ | (apply Ops_q; (case hon => exact Va); (case hd => rfl); (case hq => exact YlA)) | refine Vr ?_ | refine Vt ?_ | refine Vf ?_ | refine Vm ?_ | refine Ve ?_ | refine Vo ?_ | refine Vz ?_)
        refine ⟨out, ?_, .of_ext x1, ?_, fun c hc => .inl hc, k_b5, hob5⟩
        · rw [pick, if_pos hv]; exact (by repeat (first | exact trivial | refine ⟨rfl, ?_⟩))
        · rw [choose1, if_pos hv, List.append_nil]; exact o1
      · have hd : (!decide (v ∈ [u])) = true := by rw [decide_eq_false hv]; rfl
        have hc1 : choose1 [u] x k v = [⟨⟨x, k⟩, leastL [u]⟩] := by rw [choose1, if_neg hv]
        have hroom : M.length + 1 ≤ 1000000 := by rw [hc1] at hM; exact hM
        rw [hc1]
        rw [show pick [u] v = leastL [u] from by rw [pick, if_neg hv]]
        refine V_yes rfl hd ?_
        repeat (first | refine Vx ?_ | (apply Ops_q; (case hon => exact Va); (case hd => rfl); (case hq => exact YlA)) | refine Vr ?_ | refine Vt ?_ | refine Vf ?_ | refine Vm ?_ | refine Ve ?_ | refine Vo ?_ | refine Vz ?_)
        (apply Ops_q; (case hon => (exact Va)); (case hd => rfl); (case hq => exact Yl_call rfl (fun w_ e_ => least_v ms [u] w_ (hs1.ext e_))))
        repeat (first | refine Vx ?_ | (apply Ops_q; (case hon => exact Va); (case hd => rfl); (case hq => exact YlA)) | refine Vr ?_ | refine Vt ?_ | refine Vf ?_ | refine Vm ?_ | refine Ve ?_ | refine Vo ?_ | refine Vz ?_)
        (refine Ops_lit (by exact Va) rfl rfl rfl ?_; intro w6 b6 n_b6; have k_b6 := n_b6.blk)
        have o6 := o1.ext n_b6.ext
        have hcs : Cells w6 ⟨b6, 0, none⟩ (En.cells ⟨⟨x, (k : Int)⟩, leastL [u]⟩) := n_b6.blk.cells
        repeat (first | refine Vx ?_ | (apply Ops_q; (case hon => exact Va); (case hd => rfl); (case hq => exact YlA)) | refine Vr ?_ | refine Vt ?_ | refine Vf ?_ | refine Vm ?_ | refine Ve ?_ | refine Vo ?_ | refine Vz ?_)
        refine Ops_append1 (u := En.cells ⟨⟨x, (k : Int)⟩, leastL [u]⟩) (by exact Va) rfl rfl rfl rfl o6 hcs ⟨rfl⟩ ⟨rfl⟩ (by rw [List.length_map]; omega) rfl (Nat.le_trans hb (x1.trans n_b6.ext).size) ?_
        intro v' w7 o7 g7 d7
        have m67 : Mod (fun c => out.ownBlock = some c) w6 w7 := (Mod.of_ext (Ext.refl w6)).grow g7 (fun b hb => .inl hb)
        have m7 : Mod (fun c => out.ownBlock = some c) w w7 := (Mod.of_ext (x1.trans n_b6.ext)).grow g7 (fun b hb => .inl hb)
        rw [show [En.cells ⟨⟨x, (k : Int)⟩, leastL [u]⟩] = [(⟨⟨x, (k : Int)⟩, leastL [u]⟩ : En)].map En.cells from rfl, ← List.map_append] at o7
        have k7 := m67.blk (k_b5.ext n_b6.ext) hob5
        have hb57 : v'.ownBlock ≠ some b5 := dis_app d7 hob5 ((k_b5.ext n_b6.ext).lt)
        repeat (first | refine Vx ?_ | (apply Ops_q; (case hon => exact Va); (case hd => rfl); (case hq => exact YlA)) | refine Vr ?_ | refine Vt ?_ | refine Vf ?_ | refine Vm ?_ | refine Ve ?_ | refine Vo ?_ | refine Vz ?_)
        refine ⟨v', (by repeat (first | exact trivial | refine ⟨rfl, ?_⟩)), m7, o7, fun c hc => ?_, k7, hb57⟩
        rcases d7 with h | ⟨d, h, h2⟩
        · left; rw [← h]; exact hc
        · right; rw [h] at hc; cases hc; exact Nat.le_trans (x1.trans n_b6.ext).size h2
    rintro s w2 ⟨m2, o2, d2, k5, hs5⟩
    have hExt : ∀ w', Mod (fun c => out.ownBlock = some c) w w' → Ext w0 w' := fun w' hm => Mod.ext_of e0 hm (fun c hc => Nat.le_trans h0 (hO.ge hc))
    have e2 := hExt w2 m2
    clear o1 k_b5 hob5 x1 hs1 kb1
    obtain ⟨ms2, hk0⟩ := hkid
    have hk2 := hk0.ext e2
    repeat (first | refine Vx ?_ | (apply Ops_q; (case hon => exact Va); (case hd => rfl); (case hq => exact YlA)) | refine Vr ?_ | refine Vt ?_ | refine Vf ?_ | refine Vm ?_ | refine Ve ?_ | refine Vo ?_ | refine Vz ?_)
    (apply Ops_q; (case hon => (exact Va)); (case hd => rfl); (case hq => exact Yl_indexA (j := 0) rfl rfl (by first | exact Nat.le_of_ble_eq_true rfl | omega)))
    repeat (first | refine Vx ?_ | (apply Ops_q; (case hon => exact Va); (case hd => rfl); (case hq => exact YlA)) | refine Vr ?_ | refine Vt ?_ | refine Vf ?_ | refine Vm ?_ | refine Ve ?_ | refine Vo ?_ | refine Vz ?_)
    refine ret1 (by first | exact .inl rfl | exact .inr rfl) rfl rfl ?_
    exact Does_mk (fun w' he => ⟨o2.ext he, d2⟩) m2
  | node ta tb iha ihb =>
    intro x k v b out M w hf hx hl hk hT e0 hO hb hM
    obtain ⟨hk32, fa, fb⟩ := hf
    have hkid : ∃ bx by_ ms, Blk w0 b 83 [.pointer (some ⟨bx, 0, none⟩), .pointer (some ⟨by_, 0, none⟩), .map (some ms)] ∧ TrM w0 ta bx ∧ TrM w0 tb by_ := by
      obtain ⟨bx, by_, ms, h1, _, h3, h4⟩ := hT; exact ⟨bx, by_, ms, h1, h3, h4⟩
    rw [choose] at hM ⊢
    obtain ⟨p0, q0, ms, kb0, hs0⟩ := hT.set
    (change SetJ w0 ms (joinL ta.set tb.set) at hs0; generalize joinL ta.set tb.set = S at *)
    refine V_enter (vs := [_, _, _, _]) Try.func39 rfl Try.ntmps39 (Nat.le_of_ble_eq_true rfl) ?_
    repeat (first | refine Vx ?_ | (apply Ops_q; (case hon => exact Va); (case hd => rfl); (case hq => exact YlA)) | refine Vr ?_ | refine Vt ?_ | refine Vf ?_ | refine Vm ?_ | refine Ve ?_ | refine Vo ?_ | refine Vz ?_)
    (refine Ops_box (by exact Va) rfl rfl rfl ?_; intro w1 b5 n_b5; have k_b5 := n_b5.blk)
    have x1 := n_b5.ext
    have kb1 := kb0.ext (e0.trans x1)
    have hs1 := hs0.ext (e0.trans x1)
    have o1 := hO.ext x1
    have hob5 : out.ownBlock ≠ some b5 := fun e => by have := hO.lt e; have := n_b5.ge; omega
    have hb5 := n_b5.ge
    clear n_b5
    repeat (first | refine Vx ?_ | (apply Ops_q; (case hon => exact Va); (case hd => rfl); (case hq => exact YlA)) | refine Vr ?_ | refine Vt ?_ | refine Vf ?_ | refine Vm ?_ | refine Ve ?_ | refine Vo ?_ | refine Vz ?_)
    (apply Ops_q; (case hon => (exact Va)); (case hd => rfl); (case hq => exact Yl_inSet rfl rfl (hs1)))
    repeat (first | refine Vx ?_ | (apply Ops_q; (case hon => exact Va); (case hd => rfl); (case hq => exact YlA)) | refine Vr ?_ | refine Vt ?_ | refine Vf ?_ | refine Vm ?_ | refine Ve ?_ | refine Vo ?_ | refine Vz ?_)
    refine V_meet1 (fun s : Value => [(0, s), (3, .int .i64 (pick S v)), (2, .pointer (some ⟨b, 0, none⟩)), (5, .pointer (some ⟨b5, 0, none⟩))])
      (fun s w' => Mod (fun c => out.ownBlock = some c) w w' ∧ Own w' base 40 3 s ((M ++ choose1 S x k v).map En.cells) ∧ (∀ c, s.ownBlock = some c → out.ownBlock = some c ∨ w.heap.size ≤ c) ∧ Blk w' b5 38 [.int .u32 x, .int .i64 k] ∧ s.ownBlock ≠ some b5) ?_ ?_
    · by_cases hv : v ∈ S
      · have hd : (!decide (v ∈ S)) = false := by rw [decide_eq_true hv]; rfl
        refine V_no rfl hd ?_
        repeat (first | refine Vx ?_ | (apply Ops_q; (case hon => exact Va); (case hd => rfl); (case hq => exact YlA)) | refine Vr ?_ | refine Vt ?_ | refine Vf ?_ | refine Vm ?_ | refine Ve ?_ | refine Vo ?_ | refine Vz ?_)
        refine ⟨out, ?_, .of_ext x1, ?_, fun c hc => .inl hc, k_b5, hob5⟩
        · rw [pick, if_pos hv]; exact (by repeat (first | exact trivial | refine ⟨rfl, ?_⟩))
        · rw [choose1, if_pos hv, List.append_nil]; exact o1
      · have hd : (!decide (v ∈ S)) = true := by rw [decide_eq_false hv]; rfl
        have hc1 : choose1 S x k v = [⟨⟨x, k⟩, leastL S⟩] := by rw [choose1, if_neg hv]
        have hroom : M.length + 1 ≤ 1000000 := by rw [hc1] at hM; simp at hM; omega
        rw [hc1]
        rw [show pick S v = leastL S from by rw [pick, if_neg hv]]
        refine V_yes rfl hd ?_
        repeat (first | refine Vx ?_ | (apply Ops_q; (case hon => exact Va); (case hd => rfl); (case hq => exact YlA)) | refine Vr ?_ | refine Vt ?_ | refine Vf ?_ | refine Vm ?_ | refine Ve ?_ | refine Vo ?_ | refine Vz ?_)
        (apply Ops_q; (case hon => (exact Va)); (case hd => rfl); (case hq => exact Yl_call rfl (fun w_ e_ => least_v ms S w_ (hs1.ext e_))))
        repeat (first | refine Vx ?_ | (apply Ops_q; (case hon => exact Va); (case hd => rfl); (case hq => exact YlA)) | refine Vr ?_ | refine Vt ?_ | refine Vf ?_ | refine Vm ?_ | refine Ve ?_ | refine Vo ?_ | refine Vz ?_)
        (refine Ops_lit (by exact Va) rfl rfl rfl ?_; intro w6 b6 n_b6; have k_b6 := n_b6.blk)
        have o6 := o1.ext n_b6.ext
        have hcs : Cells w6 ⟨b6, 0, none⟩ (En.cells ⟨⟨x, (k : Int)⟩, leastL S⟩) := n_b6.blk.cells
        repeat (first | refine Vx ?_ | (apply Ops_q; (case hon => exact Va); (case hd => rfl); (case hq => exact YlA)) | refine Vr ?_ | refine Vt ?_ | refine Vf ?_ | refine Vm ?_ | refine Ve ?_ | refine Vo ?_ | refine Vz ?_)
        refine Ops_append1 (u := En.cells ⟨⟨x, (k : Int)⟩, leastL S⟩) (by exact Va) rfl rfl rfl rfl o6 hcs ⟨rfl⟩ ⟨rfl⟩ (by rw [List.length_map]; omega) rfl (Nat.le_trans hb (x1.trans n_b6.ext).size) ?_
        intro v' w7 o7 g7 d7
        have m67 : Mod (fun c => out.ownBlock = some c) w6 w7 := (Mod.of_ext (Ext.refl w6)).grow g7 (fun b hb => .inl hb)
        have m7 : Mod (fun c => out.ownBlock = some c) w w7 := (Mod.of_ext (x1.trans n_b6.ext)).grow g7 (fun b hb => .inl hb)
        rw [show [En.cells ⟨⟨x, (k : Int)⟩, leastL S⟩] = [(⟨⟨x, (k : Int)⟩, leastL S⟩ : En)].map En.cells from rfl, ← List.map_append] at o7
        have k7 := m67.blk (k_b5.ext n_b6.ext) hob5
        have hb57 : v'.ownBlock ≠ some b5 := dis_app d7 hob5 ((k_b5.ext n_b6.ext).lt)
        repeat (first | refine Vx ?_ | (apply Ops_q; (case hon => exact Va); (case hd => rfl); (case hq => exact YlA)) | refine Vr ?_ | refine Vt ?_ | refine Vf ?_ | refine Vm ?_ | refine Ve ?_ | refine Vo ?_ | refine Vz ?_)
        refine ⟨v', (by repeat (first | exact trivial | refine ⟨rfl, ?_⟩)), m7, o7, fun c hc => ?_, k7, hb57⟩
        rcases d7 with h | ⟨d, h, h2⟩
        · left; rw [← h]; exact hc
        · right; rw [h] at hc; cases hc; exact Nat.le_trans (x1.trans n_b6.ext).size h2
    rintro s w2 ⟨m2, o2, d2, k5, hs5⟩
    have hExt : ∀ w', Mod (fun c => out.ownBlock = some c) w w' → Ext w0 w' := fun w' hm => Mod.ext_of e0 hm (fun c hc => Nat.le_trans h0 (hO.ge hc))
    have e2 := hExt w2 m2
    clear o1 k_b5 hob5 x1 hs1 kb1
    obtain ⟨bx, by_, ms2, hk0, hTa, hTb⟩ := hkid
    have hk2 := hk0.ext e2
    have t0 := (kid_top hk32 hx (bit := 0) (by omega)).1
    have t1 := (kid_top hk32 hx (bit := 1) (by omega)).1
    have l0 := kid_lt hk32 hx (bit := 0) (by omega) hl
    have l1 := kid_lt hk32 hx (bit := 1) (by omega) hl
    have hh := fun w => halves_k (x := x) (k := k) w hk32 hx hl
    have hcp : Cells w2 ⟨b5, 0, none⟩ [.int .u32 x, .int .i64 k] := k5.cells
    generalize kidA x k 0 = y0 at *
    generalize kidA x k 1 = y1 at *
    generalize pick S v = v' at *
    generalize hC1 : choose1 S x k v = C1 at *
    generalize hCa : choose ta y0 (k + 1) v' = Ca at *
    generalize hCb : choose tb y1 (k + 1) v' = Cb at *
    rw [List.length_append, List.length_append] at hM
    repeat (first | refine Vx ?_ | (apply Ops_q; (case hon => exact Va); (case hd => rfl); (case hq => exact YlA)) | refine Vr ?_ | refine Vt ?_ | refine Vf ?_ | refine Vm ?_ | refine Ve ?_ | refine Vo ?_ | refine Vz ?_)
    (apply Ops_q; (case hon => (exact Va)); (case hd => rfl); (case hq => exact Yl_indexA (j := 0) rfl rfl (by first | exact Nat.le_of_ble_eq_true rfl | omega)))
    repeat (first | refine Vx ?_ | (apply Ops_q; (case hon => exact Va); (case hd => rfl); (case hq => exact YlA)) | refine Vr ?_ | refine Vt ?_ | refine Vf ?_ | refine Vm ?_ | refine Ve ?_ | refine Vo ?_ | refine Vz ?_)
    (apply Ops_q; (case hon => (exact Va)); (case hd => rfl); (case hq => exact Yl_call rfl (fun w_ e_ => hh w_)))
    repeat (first | refine Vx ?_ | (apply Ops_q; (case hon => exact Va); (case hd => rfl); (case hq => exact YlA)) | refine Vr ?_ | refine Vt ?_ | refine Vf ?_ | refine Vm ?_ | refine Ve ?_ | refine Vo ?_ | refine Vz ?_)
    (refine Ops_alloc (by exact Va) rfl ?_; intro w3 b9 n_b9; have k_b9 := n_b9.blk)
    repeat (first | refine Vx ?_ | (apply Ops_q; (case hon => exact Va); (case hd => rfl); (case hq => exact YlA)) | refine Vr ?_ | refine Vt ?_ | refine Vf ?_ | refine Vm ?_ | refine Ve ?_ | refine Vo ?_ | refine Vz ?_)
    (refine Ops_alloc (by exact Va) rfl ?_; intro w4 b10 n_b10; have k_b10 := n_b10.blk)
    have ne_b9_b10 : b9 ≠ b10 := Nat.ne_of_lt (Nat.lt_of_lt_of_le k_b9.lt n_b10.ge)
    replace k_b9 := k_b9.ext n_b10.ext
    repeat (first | refine Vx ?_ | (apply Ops_q; (case hon => exact Va); (case hd => rfl); (case hq => exact YlA)) | refine Vr ?_ | refine Vt ?_ | refine Vf ?_ | refine Vm ?_ | refine Ve ?_ | refine Vo ?_ | refine Vz ?_)
    (refine Ops_store (by exact Va) rfl rfl (by assumption) (by first | rfl | exact OneAll.h) ?_; intro w5 u_w5; have k_b9 := u_w5.blk)
    replace k_b10 := u_w5.keep k_b10 (Ne.symm ne_b9_b10)
    repeat (first | refine Vx ?_ | (apply Ops_q; (case hon => exact Va); (case hd => rfl); (case hq => exact YlA)) | refine Vr ?_ | refine Vt ?_ | refine Vf ?_ | refine Vm ?_ | refine Ve ?_ | refine Vo ?_ | refine Vz ?_)
    (refine Ops_store (by exact Va) rfl rfl (by assumption) (by first | rfl | exact OneAll.h) ?_; intro w6 u_w6; have k_b10 := u_w6.blk)
    replace k_b9 := u_w6.keep k_b9 ne_b9_b10
    have x6 : Ext w2 w6 := u_w6.below (u_w5.below (n_b9.ext.trans n_b10.ext) n_b9.ge) (Nat.le_trans n_b9.ext.size n_b10.ge)
    have m6 := m2.ext x6
    have o6 := o2.ext x6
    have hk6 := hk2.ext x6
    have e6 := e2.trans x6
    have hs9 : s.ownBlock ≠ some b9 := fun e => by have := o2.lt e; have := n_b9.ge; omega
    have hs10 : s.ownBlock ≠ some b10 := fun e => by have := o2.lt e; have := n_b10.ge; have := n_b9.ext.size; omega
    have hb6 := Nat.le_trans hb m6.size
    have h50 : Cells w6 ⟨b9, 0, none⟩ [.int .u32 y0, .int .i64 ((k + 1 : Nat) : Int)] := k_b9.cells
    clear u_w6 u_w5 n_b9 n_b10 hk2 o2 m2 e2 hcp k5 hs5
    repeat (first | refine Vx ?_ | (apply Ops_q; (case hon => exact Va); (case hd => rfl); (case hq => exact YlA)) | refine Vt ?_ | refine Vf ?_ | refine Vm ?_ | refine Ve ?_ | refine Vo ?_ | refine Vz ?_)
    refine V_region_mixed 8 (by kernel_rfl) (by kernel_rfl) rfl ?_
    repeat (first | refine Vx ?_ | (apply Ops_q; (case hon => exact Va); (case hd => rfl); (case hq => exact YlA)) | refine Vr ?_ | refine Vt ?_ | refine Vf ?_ | refine Vm ?_ | refine Ve ?_ | refine Vo ?_ | refine Vz ?_)
    (apply Ops_q; (case hon => (exact Va)); (case hd => rfl); (case hq => exact Yl_indexA (j := 0) rfl rfl (by first | exact Nat.le_of_ble_eq_true rfl | omega)))
    repeat (first | refine Vx ?_ | (apply Ops_q; (case hon => exact Va); (case hd => rfl); (case hq => exact YlA)) | refine Vr ?_ | refine Vt ?_ | refine Vf ?_ | refine Vm ?_ | refine Ve ?_ | refine Vo ?_ | refine Vz ?_)
    refine Ops_callM (S := fun c => s.ownBlock = some c) (R := fun w0 => ChR base s (M ++ C1 ++ Ca) w0) (by exact Va) rfl rfl (fun w_ e_ => by rw [← hCa]; exact iha y0 (k + 1) v' bx s (M ++ C1) w_ fa t0 l0 (by omega) hTa (e6.trans e_) (o6.ext e_) (Nat.le_trans hb6 e_.size) (by rw [hCa, List.length_append]; omega)) ?_
    intro r w7 w0_ ex7 m7 hR
    obtain ⟨o7, d7⟩ := hR
    have m07 : Mod (fun c => out.ownBlock = some c) w w7 := (m6.ext ex7).trans' m7 d2
    have e7 := hExt w7 m07
    have k10 := m7.blk (k_b10.ext ex7) hs10
    have hk7 := hk0.ext e7
    have hr10 : r.ownBlock ≠ some b10 := fun e => by
      rcases d7 b10 e with h | h
      · exact hs10 h
      · have := (k_b10.ext ex7).lt; omega
    have d27 : ∀ c, r.ownBlock = some c → out.ownBlock = some c ∨ w.heap.size ≤ c := fun c hc => by
      rcases d7 c hc with h | h
      · exact d2 c h
      · exact .inr (Nat.le_trans (Nat.le_trans m6.size ex7.size) h)
    have hb7 := Nat.le_trans hb m07.size
    have h51 : Cells w7 ⟨b10, 0, none⟩ [.int .u32 y1, .int .i64 ((k + 1 : Nat) : Int)] := k10.cells
    clear m7 ex7 o6 k_b10 k_b9 h50 hk6 m6 hs9 hs10 d7
    repeat (first | refine Vx ?_ | (apply Ops_q; (case hon => exact Va); (case hd => rfl); (case hq => exact YlA)) | refine Vt ?_ | refine Vf ?_ | refine Vm ?_ | refine Ve ?_ | refine Vo ?_ | refine Vz ?_)
    refine V_region_mixed 8 (by kernel_rfl) (by kernel_rfl) rfl ?_
    repeat (first | refine Vx ?_ | (apply Ops_q; (case hon => exact Va); (case hd => rfl); (case hq => exact YlA)) | refine Vr ?_ | refine Vt ?_ | refine Vf ?_ | refine Vm ?_ | refine Ve ?_ | refine Vo ?_ | refine Vz ?_)
    (apply Ops_q; (case hon => (exact Va)); (case hd => rfl); (case hq => exact Yl_indexA (j := 1) rfl rfl (by first | exact Nat.le_of_ble_eq_true rfl | omega)))
    repeat (first | refine Vx ?_ | (apply Ops_q; (case hon => exact Va); (case hd => rfl); (case hq => exact YlA)) | refine Vr ?_ | refine Vt ?_ | refine Vf ?_ | refine Vm ?_ | refine Ve ?_ | refine Vo ?_ | refine Vz ?_)
    refine Ops_callM (S := fun c => r.ownBlock = some c) (R := fun w0 => ChR base r (M ++ C1 ++ Ca ++ Cb) w0) (by exact Va) rfl rfl (fun w_ e_ => by rw [← hCb]; exact ihb y1 (k + 1) v' by_ r (M ++ C1 ++ Ca) w_ fb t1 l1 (by omega) hTb (e7.trans e_) (o7.ext e_) (Nat.le_trans hb7 e_.size) (by rw [hCb, List.length_append, List.length_append]; omega)) ?_
    intro r2 w8 w0_ ex8 m8 hR
    obtain ⟨o8, d8⟩ := hR
    have m08 : Mod (fun c => out.ownBlock = some c) w w8 := (m07.ext ex8).trans' m8 d27
    have d28 : ∀ c, r2.ownBlock = some c → out.ownBlock = some c ∨ w.heap.size ≤ c := fun c hc => by
      rcases d8 c hc with h | h
      · exact d27 c h
      · exact .inr (Nat.le_trans (Nat.le_trans m07.size ex8.size) h)
    rw [List.append_assoc, List.append_assoc] at o8
    repeat (first | refine Vx ?_ | (apply Ops_q; (case hon => exact Va); (case hd => rfl); (case hq => exact YlA)) | refine Vr ?_ | refine Vt ?_ | refine Vf ?_ | refine Vm ?_ | refine Ve ?_ | refine Vo ?_ | refine Vz ?_)
    refine ret1 (by first | exact .inl rfl | exact .inr rfl) rfl rfl ?_
    exact Does_mk (fun w' he => ⟨o8.ext he, d28⟩) m08
/-- What Minimal returns. -/
def minT (L : List En) : List En := if chk L = 0 then minL L else []
def MinR (w : World) (L : List En) (r : Value) (w' : World) : Prop := ∃ v, r = .tuple #[v, .int .i64 (chk L)] ∧ Own w' w.heap.size 40 3 v ((minT L).map En.cells)
set_option maxHeartbeats 1000000 in
theorem minimal_v (ao : Option Addr) (L : List En) (c : Nat) (w : World) (hL : Sl w ao L.length c L) (hLa : ∀ e ∈ L, e.p.a < 4294967296) (hn : L.length ≤ 1000000) :
    Calls Try.prog 22 #[.slice ao L.length c] w (Gives (MinR w L) w) := by
  refine V_enter (vs := [_]) Try.func22 rfl Try.ntmps22 (Nat.le_of_ble_eq_true rfl) ?_
  repeat (first | refine Vx ?_ | (apply Ops_q; (case hon => exact Va); (case hd => rfl); (case hq => exact YlA)) | refine Vr ?_ | refine Vt ?_ | refine Vf ?_ | refine Vm ?_ | refine Ve ?_ | refine Vo ?_ | refine Vz ?_)
  (apply Ops_q; (case hon => (exact Va)); (case hd => rfl); (case hq => exact Yl_call rfl (fun w_ e_ => check_v ao L c w_ (hL.ens.ext e_) hLa hn)))
  repeat (first | refine Vx ?_ | (apply Ops_q; (case hon => exact Va); (case hd => rfl); (case hq => exact YlA)) | refine Vr ?_ | refine Vt ?_ | refine Vf ?_ | refine Vm ?_ | refine Ve ?_ | refine Vo ?_ | refine Vz ?_)
  refine V_cond rfl (fun h1 => ?_) (fun h1 => ?_)
  · have h0 : ¬chk L = 0 := by simpa using h1
    repeat (first | refine Vx ?_ | (apply Ops_q; (case hon => exact Va); (case hd => rfl); (case hq => exact YlA)) | refine Vr ?_ | refine Vt ?_ | refine Vf ?_ | refine Vm ?_ | refine Ve ?_ | refine Vo ?_ | refine Vz ?_)
    refine ret2 (by first | exact .inl rfl | exact .inr rfl) rfl rfl rfl ?_
    exact Gives_mk (fun w' he => ⟨_, rfl, by rw [minT, if_neg h0]; exact Own.nil⟩) (Ext.refl _)
  have h0 : chk L = 0 := by simpa using h1
  clear h1
  have hT := (chk_iff.1 h0).2
  have hml := (min_tb hT hLa).2.2
  have hm : minT L = choose (grow 32 0 0 L (-1)) 0 0 (-1) := by rw [minT, if_pos h0]; rfl
  unfold minL at hml
  have hg := fun w_ (e_ : Ext w w_) => grow_v 32 0 0 L (-1) ao L.length c w_ rfl (by decide) (by decide) (hT.wi hLa) (hL.ext e_) hLa hn
  have hf := grow_fits 32 0 0 L (-1) rfl
  generalize grow 32 0 0 L (-1) = T at *
  repeat (first | refine Vx ?_ | (apply Ops_q; (case hon => exact Va); (case hd => rfl); (case hq => exact YlA)) | refine Vr ?_ | refine Vt ?_ | refine Vf ?_ | refine Vm ?_ | refine Ve ?_ | refine Vo ?_ | refine Vz ?_)
  (refine Ops_callR (by exact Va) rfl rfl (fun w_ e_ => hg w_ e_) ?_; intro v w1 w0_ e0_ e1_ r_v; have e_w1 := e0_.trans e1_; have b_v := e0_.size; clear e0_ e1_)
  obtain ⟨b, rfl, hTr⟩ := r_v
  repeat (first | refine Vx ?_ | (apply Ops_q; (case hon => exact Va); (case hd => rfl); (case hq => exact YlA)) | refine Vr ?_ | refine Vt ?_ | refine Vf ?_ | refine Vm ?_ | refine Ve ?_ | refine Vo ?_ | refine Vz ?_)
  refine Ops_callM (S := fun c => (Value.slice none 0 0).ownBlock = some c) (R := fun w0 => ChR w1.heap.size (.slice none 0 0) ([] ++ choose T 0 0 (-1)) w0) (by exact Va) rfl rfl (fun w_ e_ => choose_v w1 w1.heap.size (Nat.le_refl _) T 0 0 (-1) b (.slice none 0 0) [] w_ hf (by decide) (by decide) (by decide) hTr e_ Own.nil e_.size (by simp; omega)) ?_
  intro r w2 w0_ ex2 m2 hR
  obtain ⟨o2, _⟩ := hR
  rw [List.nil_append] at o2
  have x2 : Ext w w2 := Mod.ext_of (e_w1.trans ex2) m2 (fun c hc => by cases hc)
  repeat (first | refine Vx ?_ | (apply Ops_q; (case hon => exact Va); (case hd => rfl); (case hq => exact YlA)) | refine Vr ?_ | refine Vt ?_ | refine Vf ?_ | refine Vm ?_ | refine Ve ?_ | refine Vo ?_ | refine Vz ?_)
  refine ret2 (by first | exact .inl rfl | exact .inr rfl) rfl rfl rfl ?_
  exact Gives_mk (fun w' he => ⟨r, by rw [h0], by rw [hm]; exact (o2.ext he).mono e_w1.size⟩) x2
end Go.Proofs.Ytkiidmbkibfbiaa

/-
  Tables (layer 7): Trim of the reference; above, visible and Trim of the program.
  Conditions: the lists are not too long for a machine.
-/
namespace Go.Proofs.Ytkiidmbkibfbiaa
open Go.RowKit

def trmT (L : List En) : List En := if chk L = 0 then trimL L else []
/-- What Trim returns. -/
def TrmR (w : World) (L : List En) (r : Value) (w' : World) : Prop := ∃ v, r = .tuple #[v, .int .i64 (chk L)] ∧ Own w' w.heap.size 40 3 v ((trmT L).map En.cells)
theorem filter_snoc {L : List En} {k : Nat} {x : En} (q : En → Bool) (h : L[k]? = some x) : (L.take (k + 1)).filter q = (L.take k).filter q ++ if q x then [x] else [] := by
  rw [List.take_add_one, h, Option.toList_some, List.filter_append]
  cases hv : q x with
  | true => rw [List.filter_cons_of_pos hv]; rfl
  | false => rw [List.filter_cons_of_neg (by rw [hv]; decide)]; rfl
theorem filter_le (L : List En) (k : Nat) (q : En → Bool) : ((L.take k).filter q).length ≤ L.length := by
  refine Nat.le_trans (List.length_filter_le ..) ?_
  rw [List.length_take]; exact Nat.min_le_right ..
set_option maxHeartbeats 2000000 in
theorem trimR_v (ao : Option Addr) (L : List En) (c : Nat) (w : World) (hL : Ens w ao L) (hLa : ∀ e ∈ L, e.p.a < 4294967296) (hn : L.length ≤ 900) :
    Calls Try.prog 20 #[.slice ao L.length c] w (Gives (TrmR w L) w) := by
  refine V_enter (vs := [_]) Try.func20 rfl Try.ntmps20 (Nat.le_of_ble_eq_true rfl) ?_
  repeat (first | refine Vx ?_ | (apply Ops_q; (case hon => exact Va); (case hd => rfl); (case hq => exact YlA)) | refine Vr ?_ | refine Vt ?_ | refine Vf ?_ | refine Vm ?_ | refine Ve ?_ | refine Vo ?_ | refine Vz ?_)
  (apply Ops_q; (case hon => (exact Va)); (case hd => rfl); (case hq => exact Yl_call rfl (fun w_ e_ => checkR_v ao L c w_ (hL.ext e_) hLa (by omega))))
  repeat (first | refine Vx ?_ | (apply Ops_q; (case hon => exact Va); (case hd => rfl); (case hq => exact YlA)) | refine Vr ?_ | refine Vt ?_ | refine Vf ?_ | refine Vm ?_ | refine Ve ?_ | refine Vo ?_ | refine Vz ?_)
  refine V_cond rfl (fun h1 => ?_) (fun h1 => ?_)
  · have h0 : ¬chk L = 0 := by simpa using h1
    repeat (first | refine Vx ?_ | (apply Ops_q; (case hon => exact Va); (case hd => rfl); (case hq => exact YlA)) | refine Vr ?_ | refine Vt ?_ | refine Vf ?_ | refine Vm ?_ | refine Ve ?_ | refine Vo ?_ | refine Vz ?_)
    refine ret2 (by first | exact .inl rfl | exact .inr rfl) rfl rfl rfl ?_
    exact Gives_mk (fun w' he => ⟨_, rfl, by rw [trmT, if_neg h0]; exact Own.nil⟩) (Ext.refl _)
  have h0 : chk L = 0 := by simpa using h1
  clear h1
  have hTL := (chk_iff.1 h0).2
  repeat (first | refine Vx ?_ | (apply Ops_q; (case hon => exact Va); (case hd => rfl); (case hq => exact YlA)) | refine Vr ?_ | refine Vt ?_ | refine Vf ?_ | refine Vm ?_ | refine Ve ?_ | refine Vo ?_ | refine Vz ?_)
  refine V_loop (fun s : Nat × Value => [(18, .int .i64 s.1), (17, .int .i64 L.length), (16, .slice ao L.length c), (0, .slice ao L.length c), (5, s.2), (6, .slice none 0 0)])
    (fun s w' => s.1 ≤ L.length ∧ Ext w w' ∧ Own w' w.heap.size 40 3 s.2 (((L.take s.1).filter fun e => decide (¬hid L e.p)).map En.cells)) (fun s => L.length - s.1) (0, .slice none 0 0) (by repeat (first | exact trivial | refine ⟨rfl, ?_⟩)) ⟨Nat.zero_le _, Ext.refl _, Own.nil⟩ ?_
  rintro ⟨k, v⟩ w1 ⟨hk, x1, o1⟩
  dsimp only at hk o1 ⊢
  repeat (first | refine Vx ?_ | (apply Ops_q; (case hon => exact Va); (case hd => rfl); (case hq => exact YlA)) | refine Vr ?_ | refine Vt ?_ | refine Vf ?_ | refine Vm ?_ | refine Ve ?_ | refine Vo ?_ | refine Vz ?_)
  refine V_cond rfl (fun hg => ?_) (fun hg => ?_)
  · replace hg := of_decide_eq_true hg
    have hkl : k < L.length := by omega
    obtain ⟨x, hx⟩ : ∃ x, L[k]? = some x := ⟨_, List.getElem?_eq_getElem hkl⟩
    obtain ⟨ad, rfl, hc⟩ := hL.at hx
    have hxa := hLa x (List.mem_of_getElem? hx)
    have hsn := filter_snoc (fun e => decide (¬hid L e.p)) hx
    have hll := filter_le L k (fun e => decide (¬hid L e.p))
    have hc1 : Cells w1 (ad.add (k * 3)) [.int .u32 x.p.a, .int .i64 x.p.n, .int .i64 x.v] := hc.ext x1
    repeat (first | refine Vx ?_ | (apply Ops_q; (case hon => exact Va); (case hd => rfl); (case hq => exact YlA)) | refine Vr ?_ | refine Vt ?_ | refine Vf ?_ | refine Vm ?_ | refine Ve ?_ | refine Vo ?_ | refine Vz ?_)
    (apply Ops_q; (case hon => (exact Va)); (case hd => rfl); (case hq => exact Yl_indexS (j := k) rfl rfl (by omega)))
    repeat (first | refine Vx ?_ | (apply Ops_q; (case hon => exact Va); (case hd => rfl); (case hq => exact YlA)) | refine Vr ?_ | refine Vt ?_ | refine Vf ?_ | refine Vm ?_ | refine Ve ?_ | refine Vo ?_ | refine Vz ?_)
    (refine Ops_alloc (by exact Va) rfl ?_; intro w2 b8 n_b8; have k_b8 := n_b8.blk)
    repeat (first | refine Vx ?_ | (apply Ops_q; (case hon => exact Va); (case hd => rfl); (case hq => exact YlA)) | refine Vr ?_ | refine Vt ?_ | refine Vf ?_ | refine Vm ?_ | refine Ve ?_ | refine Vo ?_ | refine Vz ?_)
    (refine Ops_store (by exact Va) rfl rfl (by assumption) (by first | rfl | exact OneAll.h) ?_; intro w3 u_w3; have k_b8 := u_w3.blk)
    have y3 := u_w3.below n_b8.ext n_b8.ge
    have x3 := x1.trans y3
    have o3 := o1.ext y3
    clear u_w3 n_b8 o1 hc1
    repeat (first | refine Vx ?_ | (apply Ops_q; (case hon => exact Va); (case hd => rfl); (case hq => exact YlA)) | refine Vr ?_ | refine Vt ?_ | refine Vf ?_ | refine Vm ?_ | refine Ve ?_ | refine Vo ?_ | refine Vz ?_)
    (apply Ops_q; (case hon => (exact Va)); (case hd => rfl); (case hq => exact Yl_call rfl (fun w_ e_ => hidden_v (some ad) L c x w_ (hL.ext (x3.trans e_)) hLa hn hxa)))
    repeat (first | refine Vx ?_ | (apply Ops_q; (case hon => exact Va); (case hd => rfl); (case hq => exact YlA)) | refine Vr ?_ | refine Vt ?_ | refine Vf ?_ | refine Vm ?_ | refine Ve ?_ | refine Vo ?_ | refine Vz ?_)
    refine V_cond rfl (fun h2 => ?_) (fun h2 => ?_)
    · have h3 : ¬hid L x.p := by simpa using h2
      rw [if_pos (decide_eq_true h3)] at hsn
      repeat (first | refine Vx ?_ | (apply Ops_q; (case hon => exact Va); (case hd => rfl); (case hq => exact YlA)) | refine Vr ?_ | refine Vt ?_ | refine Vf ?_ | refine Vm ?_ | refine Ve ?_ | refine Vo ?_ | refine Vz ?_)
      (refine Ops_lit (by exact Va) rfl rfl rfl ?_; intro w6 b6 n_b6; have k_b6 := n_b6.blk)
      have o6 := o3.ext n_b6.ext
      have x6 := x3.trans n_b6.ext
      have hcs : Cells w6 ⟨b6, 0, none⟩ x.cells := n_b6.blk.cells
      repeat (first | refine Vx ?_ | (apply Ops_q; (case hon => exact Va); (case hd => rfl); (case hq => exact YlA)) | refine Vr ?_ | refine Vt ?_ | refine Vf ?_ | refine Vm ?_ | refine Ve ?_ | refine Vo ?_ | refine Vz ?_)
      refine Ops_append1 (u := x.cells) (by exact Va) rfl rfl rfl rfl o6 hcs ⟨rfl⟩ ⟨rfl⟩ (by rw [List.length_map]; omega) rfl x6.size ?_
      intro v' w7 o7 g7 d7
      have m7 : Mod (fun c => v.ownBlock = some c) w3 w7 := (Mod.of_ext n_b6.ext).grow g7 (fun b hb => .inl hb)
      have x7 : Ext w w7 := Mod.ext_of x3 m7 (fun c hc => o6.ge hc)
      rw [show [x.cells] = [x].map En.cells from rfl, ← List.map_append] at o7
      clear g7 hcs o6 x6 n_b6 k_b6
      repeat (first | refine Vx ?_ | (apply Ops_q; (case hon => exact Va); (case hd => rfl); (case hq => exact YlA)) | refine Vr ?_ | refine Vt ?_ | refine Vf ?_ | refine Vm ?_ | refine Ve ?_ | refine Vo ?_ | refine Vz ?_)
      refine ⟨(k + 1, v'), (by repeat (first | exact trivial | refine ⟨rfl, ?_⟩)), ⟨hkl, x7, ?_⟩, by simp only; omega⟩
      dsimp only
      rw [hsn]; exact o7
    · have h3 : hid L x.p := by simpa using h2
      rw [if_neg (by simpa using h3), List.append_nil] at hsn
      repeat (first | refine Vx ?_ | (apply Ops_q; (case hon => exact Va); (case hd => rfl); (case hq => exact YlA)) | refine Vr ?_ | refine Vt ?_ | refine Vf ?_ | refine Vm ?_ | refine Ve ?_ | refine Vo ?_ | refine Vz ?_)
      refine ⟨(k + 1, v), (by repeat (first | exact trivial | refine ⟨rfl, ?_⟩)), ⟨hkl, x3, ?_⟩, by simp only; omega⟩
      dsimp only
      rw [hsn]; exact o3
  replace hg := of_decide_eq_false hg
  obtain rfl : k = L.length := by omega
  rw [List.take_length] at o1
  have hSl : (visP L).length ≤ L.length := List.length_filter_le ..
  have hSt := visP_tb hTL
  have hSa : ∀ e ∈ visP L, e.p.a < 4294967296 := fun e he => hLa e (visP_mem.1 he).1
  have htr : trmT L = trimS (visP L) := by rw [trmT, if_pos h0, trimL_eq hTL]; rfl
  change Own w1 w.heap.size _ 3 v ((visP L).map En.cells) at o1
  obtain ⟨au, cu, rfl, hA⟩ := o1.slice
  rw [List.length_map]
  clear o1
  generalize visP L = S at *
  have hS : Ens w1 au S := hA
  repeat (first | refine Vx ?_ | (apply Ops_q; (case hon => exact Va); (case hd => rfl); (case hq => exact YlA)) | refine Vr ?_ | refine Vt ?_ | refine Vf ?_ | refine Vm ?_ | refine Ve ?_ | refine Vo ?_ | refine Vz ?_)
  refine V_loop (fun s : Nat × Value => [(33, .int .i64 s.1), (32, .int .i64 S.length), (31, .slice au S.length cu), (5, .slice au S.length cu), (6, s.2)])
    (fun s w' => s.1 ≤ S.length ∧ Ext w1 w' ∧ Own w' w1.heap.size 40 3 s.2 (((S.take s.1).filter (keepB S)).map En.cells)) (fun s => S.length - s.1) (0, .slice none 0 0) (by repeat (first | exact trivial | refine ⟨rfl, ?_⟩)) ⟨Nat.zero_le _, Ext.refl _, Own.nil⟩ ?_
  rintro ⟨k, v⟩ w2 ⟨hk, x2, o2⟩
  dsimp only at hk o2 ⊢
  repeat (first | refine Vx ?_ | (apply Ops_q; (case hon => exact Va); (case hd => rfl); (case hq => exact YlA)) | refine Vr ?_ | refine Vt ?_ | refine Vf ?_ | refine Vm ?_ | refine Ve ?_ | refine Vo ?_ | refine Vz ?_)
  refine V_cond rfl (fun hg2 => ?_) (fun hg2 => ?_)
  · replace hg2 := of_decide_eq_true hg2
    have hkl : k < S.length := by omega
    obtain ⟨x, hx⟩ : ∃ x, S[k]? = some x := ⟨_, List.getElem?_eq_getElem hkl⟩
    obtain ⟨ad, rfl, hc⟩ := hS.at hx
    have hxa := hSa x (List.mem_of_getElem? hx)
    have hsn := filter_snoc (keepB S) hx
    have hll := filter_le S k (keepB S)
    have hc1 : Cells w2 (ad.add (k * 3)) [.int .u32 x.p.a, .int .i64 x.p.n, .int .i64 x.v] := hc.ext x2
    repeat (first | refine Vx ?_ | (apply Ops_q; (case hon => exact Va); (case hd => rfl); (case hq => exact YlA)) | refine Vr ?_ | refine Vt ?_ | refine Vf ?_ | refine Vm ?_ | refine Ve ?_ | refine Vo ?_ | refine Vz ?_)
    (apply Ops_q; (case hon => (exact Va)); (case hd => rfl); (case hq => exact Yl_indexS (j := k) rfl rfl (by omega)))
    repeat (first | refine Vx ?_ | (apply Ops_q; (case hon => exact Va); (case hd => rfl); (case hq => exact YlA)) | refine Vr ?_ | refine Vt ?_ | refine Vf ?_ | refine Vm ?_ | refine Ve ?_ | refine Vo ?_ | refine Vz ?_)
    (refine Ops_alloc (by exact Va) rfl ?_; intro w3 b8 n_b8; have k_b8 := n_b8.blk)
    repeat (first | refine Vx ?_ | (apply Ops_q; (case hon => exact Va); (case hd => rfl); (case hq => exact YlA)) | refine Vr ?_ | refine Vt ?_ | refine Vf ?_ | refine Vm ?_ | refine Ve ?_ | refine Vo ?_ | refine Vz ?_)
    (refine Ops_store (by exact Va) rfl rfl (by assumption) (by first | rfl | exact OneAll.h) ?_; intro w4 u_w4; have k_b8 := u_w4.blk)
    have y4 := u_w4.below n_b8.ext n_b8.ge
    have x4 := x2.trans y4
    have o4 := o2.ext y4
    clear u_w4 n_b8 o2 hc1
    repeat (first | refine Vx ?_ | (apply Ops_q; (case hon => exact Va); (case hd => rfl); (case hq => exact YlA)) | refine Vr ?_ | refine Vt ?_ | refine Vf ?_ | refine Vm ?_ | refine Ve ?_ | refine Vo ?_ | refine Vz ?_)
    (apply Ops_q; (case hon => (exact Va)); (case hd => rfl); (case hq => exact Yl_call rfl (fun w_ e_ => aboveR_v (some ad) S cu x w_ (hS.ext (x4.trans e_)) hSa (by omega) hxa)))
    rw [abv_eq x.p hSt]
    repeat (first | refine Vx ?_ | (apply Ops_q; (case hon => exact Va); (case hd => rfl); (case hq => exact YlA)) | refine Vr ?_ | refine Vt ?_ | refine Vf ?_ | refine Vm ?_ | refine Ve ?_ | refine Vo ?_ | refine Vz ?_)
    refine V_cond rfl (fun h2 => ?_) (fun h2 => ?_)
    · have h3 : keepB S x = true := decide_eq_true (fun e => by simp at h2; exact h2 e.symm)
      rw [if_pos h3] at hsn
      repeat (first | refine Vx ?_ | (apply Ops_q; (case hon => exact Va); (case hd => rfl); (case hq => exact YlA)) | refine Vr ?_ | refine Vt ?_ | refine Vf ?_ | refine Vm ?_ | refine Ve ?_ | refine Vo ?_ | refine Vz ?_)
      (refine Ops_lit (by exact Va) rfl rfl rfl ?_; intro w6 b6 n_b6; have k_b6 := n_b6.blk)
      have o6 := o4.ext n_b6.ext
      have x6 := x4.trans n_b6.ext
      have hcs : Cells w6 ⟨b6, 0, none⟩ x.cells := n_b6.blk.cells
      repeat (first | refine Vx ?_ | (apply Ops_q; (case hon => exact Va); (case hd => rfl); (case hq => exact YlA)) | refine Vr ?_ | refine Vt ?_ | refine Vf ?_ | refine Vm ?_ | refine Ve ?_ | refine Vo ?_ | refine Vz ?_)
      refine Ops_append1 (u := x.cells) (by exact Va) rfl rfl rfl rfl o6 hcs ⟨rfl⟩ ⟨rfl⟩ (by rw [List.length_map]; omega) rfl x6.size ?_
      intro v' w7 o7 g7 d7
      have m7 : Mod (fun c => v.ownBlock = some c) w4 w7 := (Mod.of_ext n_b6.ext).grow g7 (fun b hb => .inl hb)
      have x7 : Ext w1 w7 := Mod.ext_of x4 m7 (fun c hc => o6.ge hc)
      rw [show [x.cells] = [x].map En.cells from rfl, ← List.map_append] at o7
      clear g7 hcs o6 x6 n_b6 k_b6
      repeat (first | refine Vx ?_ | (apply Ops_q; (case hon => exact Va); (case hd => rfl); (case hq => exact YlA)) | refine Vr ?_ | refine Vt ?_ | refine Vf ?_ | refine Vm ?_ | refine Ve ?_ | refine Vo ?_ | refine Vz ?_)
      refine ⟨(k + 1, v'), (by repeat (first | exact trivial | refine ⟨rfl, ?_⟩)), ⟨hkl, x7, ?_⟩, by simp only; omega⟩
      dsimp only
      rw [hsn]; exact o7
    · have h3 : keepB S x = false := decide_eq_false (fun e => by simp at h2; exact e h2.symm)
      rw [if_neg (by rw [h3]; decide), List.append_nil] at hsn
      repeat (first | refine Vx ?_ | (apply Ops_q; (case hon => exact Va); (case hd => rfl); (case hq => exact YlA)) | refine Vr ?_ | refine Vt ?_ | refine Vf ?_ | refine Vm ?_ | refine Ve ?_ | refine Vo ?_ | refine Vz ?_)
      refine ⟨(k + 1, v), (by repeat (first | exact trivial | refine ⟨rfl, ?_⟩)), ⟨hkl, x4, ?_⟩, by simp only; omega⟩
      dsimp only
      rw [hsn]; exact o4
  replace hg2 := of_decide_eq_false hg2
  obtain rfl : k = S.length := by omega
  rw [List.take_length] at o2
  repeat (first | refine Vx ?_ | (apply Ops_q; (case hon => exact Va); (case hd => rfl); (case hq => exact YlA)) | refine Vr ?_ | refine Vt ?_ | refine Vf ?_ | refine Vm ?_ | refine Ve ?_ | refine Vo ?_ | refine Vz ?_)
  refine ret2 (by first | exact .inl rfl | exact .inr rfl) rfl rfl rfl ?_
  exact Gives_mk (fun w' he => ⟨_, by rw [h0], by rw [htr]; exact (o2.ext he).mono x1.size⟩) (x1.trans x2)
end Go.Proofs.Ytkiidmbkibfbiaa

/-
  More rules of the walk: make of a slice with one cell an element; a slice of one's own made shorter.
  No conditions beyond those that each rule states.
-/
namespace Go.Proofs.Ytkiidmbkibfbiaa
open Go.RowKit

section
variable {P : Program} {N : Nat} {ops : Array Oper} {K : Env → World → Prop} {m : Env} {w : World} {rest : List Oper} {ty : TypeId} {pos : String} {after : Array Edge} {g : Option (Nat × Bool)}
theorem flatten_rep (z : Value) : ∀ n : Nat, (List.replicate n [z]).flatten = List.replicate n z
  | 0 => rfl
  | n + 1 => by rw [List.replicate_succ, List.flatten_cons, flatten_rep z n]; rfl
theorem Ops_make1 {dst : Nat} {t e : TypeId} {x y : Operand} {k k' : IntKind} {n b0 : Nat} {z : Value} [ht : TSlice P t e] [hs : TSize P e 1 b0] [hz : TZero P e z [z]]
    (hon : On N ops m ⟨some dst, .makeSlice t x y, ty, pos, after, g⟩) (hd : Nat.ble (dst + 1) N = true) (hx : ev m x = some (.int k (n : Int))) (hy : ev m y = some (.int k' (n : Int))) (hb : n * b0 ≤ 140737488355328) (h63 : n ≤ maxLen)
    (h : ∀ w1 b, Ext w w1 → w.heap.size ≤ b → Own w1 w.heap.size e 1 (.slice (some ⟨b, 0, none⟩) n n) (List.replicate n [z]) → Ops P N ops false K rest ((dst, .slice (some ⟨b, 0, none⟩) n n) :: m) w1) :
    Ops P N ops false K (⟨some dst, .makeSlice t x y, ty, pos, after, g⟩ :: rest) m w := by
  refine ⟨fun a w' ha hw => ?_⟩
  unfold wpList
  rw [if_pos (hon.out a ha)]
  refine .inl ?_
  obtain ⟨inf, hi, hsz⟩ := Option.map_eq_some_iff.1 hs.h
  simp only [Prod.mk.injEq] at hsz
  obtain ⟨inf', hi', hz'⟩ := Option.bind_eq_some_iff.1 hz.h
  obtain rfl := Option.some.inj (hi.symm.trans hi')
  have h63' : (n : Int) ≤ 9223372036854775807 := by
    have h := h63
    simp [maxLen] at h
    omega
  have hb' : (inf.bytes : Int) * (n : Int) ≤ 281474976710656 := by
    rw [hsz.2, ← Int.natCast_mul, Nat.mul_comm]; omega
  have hmc : madeCells z.cells (n * 1) = (List.replicate n z).toArray := by
    rw [hz.cells, Nat.mul_one]
    apply Array.ext_getElem?
    intro j
    by_cases hj : j < n
    · simp [madeCells, hj, Nat.mod_one]
    · simp [madeCells, hj]
  have hr : (execOp a.eval ⟨some dst, .makeSlice t x y, ty, pos, after, g⟩).run P w' = .ok (.value (.slice (some ⟨w'.heap.size, 0, none⟩) n n)) (w'.alloc (.cells (List.replicate n z).toArray e)) := by
    have := run_make (P := P) w' t e inf z ht.h hi hz' k k' n n (by omega) (Int.le_refl _) hb' h63'
    simp only [Int.toNat_natCast, hsz.1] at this
    rw [hmc] at this
    simp [execOp, ha.ev hx, ha.ev hy, this]
  unfold Oper.wp
  rw [hr]
  have hn := New.of hw e (List.replicate n z)
  refine (h _ _ hn.ext hn.ge ⟨⟨?_, .inr ⟨w'.heap.size, n, _, by rw [List.length_replicate], hn.ge, hn.blk, ?_, h63, ?_, ?_⟩⟩, fun u hu => ?_⟩).out _ _ (ha.put (Nat.le_of_ble_eq_true hd) _) (Ext.refl _)
  · rw [flatten_rep, List.length_replicate, List.length_replicate, Nat.mul_one]
  · rw [List.length_replicate]; exact Nat.le_refl _
  · simp
  · rw [flatten_rep]; simp
  · rw [(List.mem_replicate.1 hu).2]; rfl
end
/-- A slice of one's own, cut behind its first i elements. -/
theorem Own.cut {w : World} {base n0 g n c : Nat} {e : TypeId} {L : List (List Value)} (h : Own w base e n0 (.slice (some ⟨g, 0, none⟩) n c) L) {i : Nat} (hi : i ≤ L.length) : Own w base e n0 (.slice (some ⟨g, 0, none⟩) i c) (L.take i) := by
  obtain ⟨⟨h1, h2⟩, h3⟩ := h
  rcases h2 with ⟨h2, _⟩ | ⟨g', cap, cur, h2, h4, h5, h6, h7, h8, h9⟩
  · cases h2
  cases h2
  have hlen : ∀ x ∈ L.take i, x.length = n0 := fun x hx => h3 x (List.mem_of_mem_take hx)
  have hfl : ∀ M : List (List Value), (∀ x ∈ M, x.length = n0) → M.flatten.length = M.length * n0 := fun M hM => by
    induction M with
    | nil => simp
    | cons a r ih => rw [List.flatten_cons, List.length_append, ih (fun u hu => hM u (List.mem_cons_of_mem _ hu)), hM a (List.mem_cons_self ..), List.length_cons, Nat.succ_mul, Nat.add_comm]
  have hti : (L.take i).length = i := by rw [List.length_take]; omega
  have ht : (L.take i).flatten = L.flatten.take (i * n0) := by
    have h10 : L.flatten = (L.take i).flatten ++ (L.drop i).flatten := by rw [← List.flatten_append, List.take_append_drop]
    rw [h10, List.take_left' (by rw [hfl _ hlen, hti])]
  refine ⟨⟨by rw [hfl _ hlen, hti], .inr ⟨g, c, cur, by rw [hti], h4, h5, by rw [hti]; omega, h7, h8, ?_⟩⟩, hlen⟩
  rw [ht, hti, ← h9, List.take_take, Nat.min_eq_left (Nat.mul_le_mul_right _ hi)]
end Go.Proofs.Ytkiidmbkibfbiaa

/-
  Tables (layer 7): above of the program.
  Conditions: the lists are not too long for a machine.
-/
namespace Go.Proofs.Ytkiidmbkibfbiaa
open Go.RowKit

def ic (x : Int) : List Value := [.int .i64 x]
def nc (x : Nat) : List Value := [.int .i64 x]
def upsL (L : List En) : List Int := (List.range L.length).map (upI L)
/-- The stack before entry i. -/
def ancs (L : List En) : Nat → List Nat
  | 0 => []
  | i + 1 => covs L i ++ [i]
theorem covs_lt {L : List En} {i j : Nat} (h : j ∈ covs L i) : j < i ∧ covB L i j = true := by
  unfold covs at h
  obtain ⟨h1, h2⟩ := List.mem_filter.1 h
  exact ⟨List.mem_range.1 h1, h2⟩
theorem cov_mid {L : List En} (h : Tb L) {j i m : Nat} (hji : j < i) (him : i < m) (hm : m < L.length) (hc : covB L m j = true) : covB L i j = true := by
  have hv := has_valid (covers_iff.1 hc).2.2
  have h1 := gp_lt h.srt hji (Nat.lt_trans him hm)
  have h2 := gp_lt h.srt him hm
  have h3 := ((has_iff hv).1 (covers_iff.1 hc).2.2).2
  have ha : (gp L j).has (gp L i).a = true := (has_iff hv).2 ⟨by rcases h1 with h | h <;> omega, by rcases h2 with h | h <;> omega⟩
  exact has_lt ha (has_self (gp_ok h (Nat.lt_trans him hm))) h1
theorem ancs_filter {L : List En} (h : Tb L) : ∀ {i : Nat}, i < L.length → covs L i = (ancs L i).filter (covB L i)
  | 0, _ => rfl
  | i + 1, hi => by
    rw [ancs, List.filter_append, covs, List.range_succ, List.filter_append, covs, List.filter_filter]
    congr 1
    refine List.filter_congr fun j hj => ?_
    have hj := List.mem_range.1 hj
    cases hc : covB L (i + 1) j with
    | false => rfl
    | true => rw [cov_mid h hj (Nat.lt_succ_self i) hi hc]; rfl
theorem ancs_asc (L : List En) : ∀ (i : Nat), (ancs L i).Pairwise (· < ·)
  | 0 => List.Pairwise.nil
  | i + 1 => List.pairwise_append.2 ⟨List.pairwise_lt_range.sublist List.filter_sublist, List.pairwise_singleton .., fun a ha b hb => by rw [List.mem_singleton.1 hb]; exact (covs_lt ha).1⟩
theorem ancs_mem {L : List En} (h : Tb L) {i j : Nat} (hi : i < L.length) (hj : j ∈ ancs L (i + 1)) : j ≤ i ∧ (gp L j).has (gp L i).a = true := by
  rw [ancs] at hj
  rcases List.mem_append.1 hj with hj | hj
  · have := covs_lt hj
    exact ⟨Nat.le_of_lt this.1, (covers_iff.1 this.2).2.2⟩
  · rw [List.mem_singleton.1 hj]
    exact ⟨Nat.le_refl _, has_self (gp_ok h hi)⟩
/-- Where the popping stops. -/
theorem pop_stop {L : List En} (h : Tb L) {i : Nat} (hi : i < L.length) {S R : List Nat} (hsr : S ++ R = ancs L i) (hR : ∀ r ∈ R, covB L i r = false) (hS : ∀ S' j, S = S' ++ [j] → covB L i j = true) : S = covs L i := by
  have hRn : R.filter (covB L i) = [] := List.filter_eq_nil_iff.2 fun r hr => by rw [hR r hr]; decide
  rw [ancs_filter h hi, ← hsr, List.filter_append, hRn, List.append_nil]
  refine (List.filter_eq_self.2 fun j hj => ?_).symm
  rcases List.eq_nil_or_concat S with rfl | ⟨S', t, rfl⟩
  · cases hj
  · rw [List.concat_eq_append] at *
    have ht := hS S' t rfl
    rcases List.mem_append.1 hj with hj | hj
    · cases i with
      | zero => cases S' with
        | nil => cases hj
        | cons a b => simp [ancs] at hsr
      | succ i =>
        have hasc := ancs_asc L (i + 1)
        rw [← hsr] at hasc
        have hjt : j < t := (List.pairwise_append.1 (List.pairwise_append.1 hasc).1).2.2 j hj t (List.mem_singleton.2 rfl)
        have hjm := ancs_mem h (j := j) (i := i) (by omega) (by rw [← hsr]; simp [hj])
        have htm := ancs_mem h (j := t) (i := i) (by omega) (by rw [← hsr]; simp)
        have hlt := gp_lt h.srt hjt (show t < L.length by omega)
        exact covers_trans (has_lt hjm.2 htm.2 hlt) ht
    · rw [List.mem_singleton.1 hj]; exact ht
theorem covs_len (L : List En) (i : Nat) : (covs L i).length ≤ i := by
  unfold covs
  refine Nat.le_trans (List.length_filter_le ..) ?_
  rw [List.length_range]; exact Nat.le_refl _
theorem ups_snoc (L : List En) (k : Nat) : (List.range (k + 1)).map (upI L) = (List.range k).map (upI L) ++ [upI L k] := by
  rw [List.range_succ, List.map_append]; rfl
def topB (L : List En) (i : Nat) (S : List Nat) : Bool := match S.getLast? with
  | none => false
  | some t => !covB L i t
theorem topB_nil (L : List En) (i : Nat) : topB L i [] = false := rfl
theorem topB_snoc (L : List En) (i : Nat) (S : List Nat) (t : Nat) : topB L i (S ++ [t]) = !covB L i t := by rw [topB, List.getLast?_append]; rfl
theorem upI_nil {L : List En} {i : Nat} (h : covs L i = []) : upI L i = -1 := by rw [upI, h]; rfl
theorem upI_snoc {L : List En} {i : Nat} {S : List Nat} {t : Nat} (h : covs L i = S ++ [t]) : upI L i = (t : Int) := by rw [upI, h, lastI, List.getLast?_append]; rfl
set_option maxHeartbeats 4000000 in
theorem aboveP_v (ao : Option Addr) (L : List En) (c : Nat) (w : World) (hL : Ens w ao L) (hLa : ∀ e ∈ L, e.p.a < 4294967296) (hT : Tb L) (hn : L.length ≤ 1000000) :
    Calls Try.prog 36 #[.slice ao L.length c] w (Gives (fun r w' => Own w' w.heap.size 3 1 r ((upsL L).map ic)) w) := by
  refine V_enter (vs := [_]) Try.func36 rfl Try.ntmps36 (Nat.le_of_ble_eq_true rfl) ?_
  repeat (first | refine Vx ?_ | (apply Ops_q; (case hon => exact Va); (case hd => rfl); (case hq => exact YlA)) | refine Vr ?_ | refine Vt ?_ | refine Vf ?_ | refine Vm ?_ | refine Ve ?_ | refine Vo ?_ | refine Vz ?_)
  refine V_loop (fun s : Nat × Value × Value => [(10, .int .i64 s.1), (9, .int .i64 L.length), (8, .slice ao L.length c), (0, .slice ao L.length c), (3, s.2.1), (4, s.2.2)])
    (fun s w' => s.1 ≤ L.length ∧ Ext w w' ∧ Own w' w.heap.size 3 1 s.2.1 ((ancs L s.1).map nc) ∧ Own w' w.heap.size 3 1 s.2.2 (((List.range s.1).map (upI L)).map ic) ∧ (∀ b, s.2.1.ownBlock = some b → s.2.2.ownBlock ≠ some b)) (fun s => L.length - s.1) (0, .slice none 0 0, .slice none 0 0) (by repeat (first | exact trivial | refine ⟨rfl, ?_⟩)) ⟨Nat.zero_le _, Ext.refl _, Own.nil, Own.nil, fun b hb => by cases hb⟩ ?_
  rintro ⟨i, vs, vo⟩ w1 ⟨hi, x1, os, oo, hne⟩
  dsimp only at hi os oo hne ⊢
  repeat (first | refine Vx ?_ | (apply Ops_q; (case hon => exact Va); (case hd => rfl); (case hq => exact YlA)) | refine Vr ?_ | refine Vt ?_ | refine Vf ?_ | refine Vm ?_ | refine Ve ?_ | refine Vo ?_ | refine Vz ?_)
  refine V_cond rfl (fun hg => ?_) (fun hg => ?_)
  · replace hg := of_decide_eq_true hg
    have hil : i < L.length := by omega
    obtain ⟨x, hx⟩ : ∃ x, L[i]? = some x := ⟨_, List.getElem?_eq_getElem hil⟩
    obtain ⟨ad, rfl, hc⟩ := hL.at hx
    have hxa := hLa x (List.mem_of_getElem? hx)
    have hgx := gp_at hx
    have hc1 : Cells w1 (ad.add (i * 3)) [.int .u32 x.p.a, .int .i64 x.p.n, .int .i64 x.v] := hc.ext x1
    repeat (first | refine Vx ?_ | (apply Ops_q; (case hon => exact Va); (case hd => rfl); (case hq => exact YlA)) | refine Vr ?_ | refine Vt ?_ | refine Vf ?_ | refine Vm ?_ | refine Ve ?_ | refine Vo ?_ | refine Vz ?_)
    (apply Ops_q; (case hon => (exact Va)); (case hd => rfl); (case hq => exact Yl_indexS (j := i) rfl rfl (by omega)))
    repeat (first | refine Vx ?_ | (apply Ops_q; (case hon => exact Va); (case hd => rfl); (case hq => exact YlA)) | refine Vr ?_ | refine Vt ?_ | refine Vf ?_ | refine Vm ?_ | refine Ve ?_ | refine Vo ?_ | refine Vz ?_)
    (refine Ops_alloc (by exact Va) rfl ?_; intro w2 b6 n_b6; have k_b6 := n_b6.blk)
    repeat (first | refine Vx ?_ | (apply Ops_q; (case hon => exact Va); (case hd => rfl); (case hq => exact YlA)) | refine Vr ?_ | refine Vt ?_ | refine Vf ?_ | refine Vm ?_ | refine Ve ?_ | refine Vo ?_ | refine Vz ?_)
    (refine Ops_store (by exact Va) rfl rfl (by assumption) (by first | rfl | exact OneAll.h) ?_; intro w3 u_w3; have k_b6 := u_w3.blk)
    have y3 := u_w3.below n_b6.ext n_b6.ge
    have x3 := x1.trans y3
    replace os := os.ext y3
    replace oo := oo.ext y3
    have hxp0 : Cells w3 ⟨b6, 0, none⟩ [.int .u32 x.p.a, .int .i64 x.p.n] := k_b6.part 0 2
    clear u_w3 n_b6 hc1 y3 x1
    repeat (first | refine Vx ?_ | (apply Ops_q; (case hon => exact Va); (case hd => rfl); (case hq => exact YlA)) | refine Vr ?_ | refine Vt ?_ | refine Vf ?_ | refine Vm ?_ | refine Ve ?_ | refine Vo ?_ | refine Vz ?_)
    refine V_loop (fun s : Value × List Nat × List Nat => [(3, s.1), (6, .pointer (some ⟨b6, 0, none⟩)), (10, .int .i64 i), (9, .int .i64 L.length), (8, .slice (some ad) L.length c), (0, .slice (some ad) L.length c), (4, vo)])
      (fun s w' => Ext w3 w' ∧ Own w' w.heap.size 3 1 s.1 (s.2.1.map nc) ∧ (∀ b, s.1.ownBlock = some b → vs.ownBlock = some b) ∧ s.2.1 ++ s.2.2 = ancs L i ∧ ∀ r ∈ s.2.2, covB L i r = false) (fun s => s.2.1.length) (vs, ancs L i, []) (by repeat (first | exact trivial | refine ⟨rfl, ?_⟩)) ⟨Ext.refl _, os, fun b hb => hb, by simp, fun r hr => nomatch hr⟩ ?_
    rintro ⟨v, S, R⟩ w4 ⟨x4, o4, hb4, hsr, hR⟩
    dsimp only at o4 hb4 hsr hR ⊢
    have hxp := hxp0.ext x4
    have x34 := x3.trans x4
    have hSl : S.length ≤ i := by
      have h1 := congrArg List.length hsr
      rw [List.length_append] at h1
      have : (ancs L i).length ≤ i := by
        cases i with
        | zero => exact Nat.le_refl _
        | succ i => rw [ancs, List.length_append]; have := covs_len L i; simp; omega
      omega
    repeat (first | refine Vx ?_ | (apply Ops_q; (case hon => exact Va); (case hd => rfl); (case hq => exact YlA)) | refine Vr ?_ | refine Vt ?_ | refine Vf ?_ | refine Vm ?_ | refine Ve ?_ | refine Vo ?_ | refine Vz ?_)
    refine Ops_meet [(32, .bool (topB L i S)), (3, v), (6, .pointer (some ⟨b6, 0, none⟩)), (10, .int .i64 i), (9, .int .i64 L.length), (8, .slice (some ad) L.length c), (0, .slice (some ad) L.length c), (4, vo)] ?_ ?_
    · rcases List.eq_nil_or_concat S with hS0 | ⟨S', t, hS1⟩
      · have hd : decide ((0 : Int) < ((S.length : Nat) : Int)) = false := by rw [hS0]; rfl
        have ht : topB L i S = false := by rw [hS0]; rfl
        rw [ht]
        obtain ⟨av, cv, rfl, _⟩ := o4.slice
        rw [List.length_map]
        repeat (first | refine Vx ?_ | (apply Ops_q; (case hon => exact Va); (case hd => rfl); (case hq => exact YlA)) | refine Vr ?_ | refine Vt ?_ | refine Vf ?_ | refine Vm ?_ | refine Ve ?_ | refine Vo ?_ | refine Vz ?_)
        refine Ops_know rfl rfl hd ?_
        repeat (first | refine Vx ?_ | (apply Ops_q; (case hon => exact Va); (case hd => rfl); (case hq => exact YlA)) | refine Vr ?_ | refine Vt ?_ | refine Vf ?_ | refine Vm ?_ | refine Ve ?_ | refine Vo ?_ | refine Vz ?_)
        exact ⟨(by repeat (first | exact trivial | refine ⟨rfl, ?_⟩)), rfl⟩
      · rw [List.concat_eq_append] at hS1
        have hol : S.length = S'.length + 1 := by rw [hS1]; simp
        have hd : decide ((0 : Int) < ((S.length : Nat) : Int)) = true := decide_eq_true (by omega)
        have ht : topB L i S = !covB L i t := by rw [hS1]; exact topB_snoc ..
        rw [ht]
        obtain ⟨g, cv, hve, _, _, _⟩ := o4.addr (by rw [hS1]; simp)
        obtain ⟨av, cv', hve', hAv⟩ := o4.slice
        subst hve
        cases hve'
        rw [List.length_map]
        have el : ((S.length : Nat) : Int) - 1 = ((S'.length : Nat) : Int) := by omega
        obtain ⟨_, e', hct⟩ := hAv S'.length (nc t) (by rw [hS1, List.getElem?_map]; simp)
        cases e'
        have hct1 : w4.cell? ((⟨g, 0, none⟩ : Addr).add (S'.length * 1)) = some (.int .i64 t) := by
          have := hct 0 _ rfl
          rw [add_add, Nat.add_zero] at this; exact this
        have hil2 : S'.length < S.length := by omega
        have htl : t < L.length := by
          have hm : t ∈ ancs L i := by rw [← hsr, hS1]; simp
          cases i with
          | zero => cases hm
          | succ i => have := (ancs_mem hT (by omega) hm).1; omega
        obtain ⟨y, hy⟩ : ∃ y, L[t]? = some y := ⟨_, List.getElem?_eq_getElem htl⟩
        obtain ⟨_, e', hcy⟩ := hL.at hy
        cases e'
        have hya := hLa y (List.mem_of_getElem? hy)
        have hcy1 : Cells w4 (ad.add (t * 3)) [.int .u32 y.p.a, .int .i64 y.p.n] := fun j u hj => (hcy.ext x34) j u (by
          match j, hj with
          | 0, hj => exact hj
          | 1, hj => exact hj)
        have hcov : covB L i t = y.p.covers x.p := by rw [covB, hgx, gp_at hy]
        repeat (first | refine Vx ?_ | (apply Ops_q; (case hon => exact Va); (case hd => rfl); (case hq => exact YlA)) | refine Vr ?_ | refine Vt ?_ | refine Vf ?_ | refine Vm ?_ | refine Ve ?_ | refine Vo ?_ | refine Vz ?_)
        refine Ops_know rfl rfl hd ?_
        repeat (first | refine Vx ?_ | (apply Ops_q; (case hon => exact Va); (case hd => rfl); (case hq => exact YlA)) | refine Vr ?_ | refine Vt ?_ | refine Vf ?_ | refine Vm ?_ | refine Ve ?_ | refine Vo ?_ | refine Vz ?_)
        rw [el]
        (apply Ops_q; (case hon => (exact Va)); (case hd => rfl); (case hq => exact Yl_indexS (j := S'.length) rfl rfl (by omega)))
        repeat (first | refine Vx ?_ | (apply Ops_q; (case hon => exact Va); (case hd => rfl); (case hq => exact YlA)) | refine Vr ?_ | refine Vt ?_ | refine Vf ?_ | refine Vm ?_ | refine Ve ?_ | refine Vo ?_ | refine Vz ?_)
        (apply Ops_q; (case hon => (exact Va)); (case hd => rfl); (case hq => exact Yl_indexS (j := t) rfl rfl (by omega)))
        repeat (first | refine Vx ?_ | (apply Ops_q; (case hon => exact Va); (case hd => rfl); (case hq => exact YlA)) | refine Vr ?_ | refine Vt ?_ | refine Vf ?_ | refine Vm ?_ | refine Ve ?_ | refine Vo ?_ | refine Vz ?_)
        (apply Ops_q; (case hon => (exact Va)); (case hd => rfl); (case hq => exact Yl_call rfl (fun w_ e_ => coversP_v y.p x.p w_ hya hxa)))
        rw [← hcov]
        repeat (first | refine Vx ?_ | (apply Ops_q; (case hon => exact Va); (case hd => rfl); (case hq => exact YlA)) | refine Vr ?_ | refine Vt ?_ | refine Vf ?_ | refine Vm ?_ | refine Ve ?_ | refine Vo ?_ | refine Vz ?_)
        exact ⟨(by repeat (first | exact trivial | refine ⟨rfl, ?_⟩)), rfl⟩
    repeat (first | refine Vx ?_ | (apply Ops_q; (case hon => exact Va); (case hd => rfl); (case hq => exact YlA)) | refine Vr ?_ | refine Vt ?_ | refine Vf ?_ | refine Vm ?_ | refine Ve ?_ | refine Vo ?_ | refine Vz ?_)
    refine V_cond rfl (fun hb => ?_) (fun hb => ?_)
    · rcases List.eq_nil_or_concat S with hS0 | ⟨S', t, hS1⟩
      · rw [hS0] at hb; cases hb
      rw [List.concat_eq_append] at hS1
      have hcf : covB L i t = false := by rw [hS1, topB_snoc] at hb; simpa using hb
      have hol : S.length = S'.length + 1 := by rw [hS1]; simp
      obtain ⟨g, cv, hve, _, _, _⟩ := o4.addr (by rw [hS1]; simp)
      subst hve
      have hcap := o4.slice2
      obtain ⟨_, _, hve, _, hcap, _⟩ := hcap
      cases hve
      rw [List.length_map] at hcap
      have o5 := o4.cut (i := S'.length) (by rw [List.length_map]; omega)
      rw [← List.map_take] at o5
      have htk : S.take S'.length = S' := by rw [hS1]; simp
      rw [htk] at o5
      have el : ((S.length : Nat) : Int) - 1 = ((S'.length : Nat) : Int) := by omega
      rw [List.length_map]
      repeat (first | refine Vx ?_ | (apply Ops_q; (case hon => exact Va); (case hd => rfl); (case hq => exact YlA)) | refine Vr ?_ | refine Vt ?_ | refine Vf ?_ | refine Vm ?_ | refine Ve ?_ | refine Vo ?_ | refine Vz ?_)
      rw [el]
      refine Ops_sliceHx (by exact Va) rfl rfl rfl (by omega) hcap ?_
      repeat (first | refine Vx ?_ | (apply Ops_q; (case hon => exact Va); (case hd => rfl); (case hq => exact YlA)) | refine Vr ?_ | refine Vt ?_ | refine Vf ?_ | refine Vm ?_ | refine Ve ?_ | refine Vo ?_ | refine Vz ?_)
      refine ⟨(_, S', t :: R), (by repeat (first | exact trivial | refine ⟨rfl, ?_⟩)), ⟨x4, o5, fun b hb => hb4 b hb, by rw [← hsr, hS1]; simp, fun r hr => ?_⟩, by rw [hS1]; simp⟩
      rcases List.mem_cons.1 hr with rfl | hr
      · exact hcf
      · exact hR r hr
    · have hS := pop_stop hT hil hsr hR fun S' j h => by
        rw [h, topB_snoc] at hb; simpa using hb
      subst hS
      have hbe : ∀ b, v.ownBlock = some b → vo.ownBlock ≠ some b := fun b h => hne b (hb4 b h)
      have oo4 := oo.ext x4
      obtain ⟨av, cv, hve, hAv⟩ := o4.slice
      subst hve
      rw [List.length_map] at o4 hbe ⊢
      have hcl := covs_len L i
      clear os oo hne hb4 hsr hR hSl hb
      repeat (first | refine Vx ?_ | (apply Ops_q; (case hon => exact Va); (case hd => rfl); (case hq => exact YlA)) | refine Vr ?_ | refine Vt ?_ | refine Vf ?_ | refine Vm ?_ | refine Ve ?_ | refine Vo ?_ | refine Vz ?_)
      refine V_meet1 (fun _ : Unit => [(7, .int .i64 (upI L i)), (3, .slice av (covs L i).length cv), (4, vo), (10, .int .i64 i), (9, .int .i64 L.length), (8, .slice (some ad) L.length c), (0, .slice (some ad) L.length c)]) (fun _ w' => w' = w4) ?_ ?_
      · refine V_cond rfl (fun h1 => ?_) (fun h1 => ?_)
        · have h1' : 0 < (covs L i).length := by have := of_decide_eq_true h1; omega
          clear h1
          obtain ⟨S', t, hS1⟩ : ∃ S' t, covs L i = S' ++ [t] := by
            rcases List.eq_nil_or_concat (covs L i) with h | ⟨S', t, h⟩
            · rw [h] at h1'; exact absurd h1' (by decide)
            · exact ⟨S', t, by rw [h, List.concat_eq_append]⟩
          have hol : (covs L i).length = S'.length + 1 := by rw [hS1]; simp
          have el : (((covs L i).length : Nat) : Int) - 1 = ((S'.length : Nat) : Int) := by omega
          obtain ⟨adv, rfl, hct⟩ := hAv S'.length (nc t) (by rw [hS1, List.getElem?_map]; simp)
          have hct1 : w4.cell? (adv.add (S'.length * 1)) = some (.int .i64 (upI L i)) := by
            have := hct 0 _ rfl
            rw [add_add, Nat.add_zero] at this; rw [upI_snoc hS1]; exact this
          have hil2 : S'.length < (covs L i).length := by omega
          repeat (first | refine Vx ?_ | (apply Ops_q; (case hon => exact Va); (case hd => rfl); (case hq => exact YlA)) | refine Vr ?_ | refine Vt ?_ | refine Vf ?_ | refine Vm ?_ | refine Ve ?_ | refine Vo ?_ | refine Vz ?_)
          rw [el]
          (apply Ops_q; (case hon => (exact Va)); (case hd => rfl); (case hq => exact Yl_indexS (j := S'.length) rfl rfl (by omega)))
          repeat (first | refine Vx ?_ | (apply Ops_q; (case hon => exact Va); (case hd => rfl); (case hq => exact YlA)) | refine Vr ?_ | refine Vt ?_ | refine Vf ?_ | refine Vm ?_ | refine Ve ?_ | refine Vo ?_ | refine Vz ?_)
          exact ⟨(), (by repeat (first | exact trivial | refine ⟨rfl, ?_⟩)), rfl⟩
        · have h1' : covs L i = [] := List.length_eq_zero_iff.1 (by have := of_decide_eq_false h1; omega)
          clear h1
          have hup := upI_nil h1'
          repeat (first | refine Vx ?_ | (apply Ops_q; (case hon => exact Va); (case hd => rfl); (case hq => exact YlA)) | refine Vr ?_ | refine Vt ?_ | refine Vf ?_ | refine Vm ?_ | refine Ve ?_ | refine Vo ?_ | refine Vz ?_)
          refine ⟨(), ?_, rfl⟩
          rw [hup]
          exact (by repeat (first | exact trivial | refine ⟨rfl, ?_⟩))
      · rintro _ w5 rfl
        have hrl : ((List.range i).map (upI L)).length = i := by simp
        repeat (first | refine Vx ?_ | (apply Ops_q; (case hon => exact Va); (case hd => rfl); (case hq => exact YlA)) | refine Vr ?_ | refine Vt ?_ | refine Vf ?_ | refine Vm ?_ | refine Ve ?_ | refine Vo ?_ | refine Vz ?_)
        (refine Ops_lit (by exact Va) rfl rfl rfl ?_; intro w6 c6 n_c6; have k_c6 := n_c6.blk)
        have os6 := o4.ext n_c6.ext
        have oo6 := oo4.ext n_c6.ext
        have x6 := x34.trans n_c6.ext
        have hcs : Cells w6 ⟨c6, 0, none⟩ (ic (upI L i)) := n_c6.blk.cells
        have hc6 : vo.ownBlock ≠ some c6 := fun e => by have := oo4.lt e; have := n_c6.ge; omega
        repeat (first | refine Vx ?_ | (apply Ops_q; (case hon => exact Va); (case hd => rfl); (case hq => exact YlA)) | refine Vr ?_ | refine Vt ?_ | refine Vf ?_ | refine Vm ?_ | refine Ve ?_ | refine Vo ?_ | refine Vz ?_)
        refine Ops_append1 (u := ic (upI L i)) (by exact Va) rfl rfl rfl rfl oo6 hcs ⟨rfl⟩ ⟨rfl⟩ (by rw [List.length_map, hrl]; omega) rfl x6.size ?_
        intro vo' w7 o7 g7 d7
        have m7 : Mod (fun c => vo.ownBlock = some c) w6 w7 := (Mod.of_ext (Ext.refl w6)).grow g7 (fun b hb => .inl hb)
        have x7 : Ext w w7 := Mod.ext_of x6 m7 (fun c hc => oo6.ge hc)
        rw [show [ic (upI L i)] = [upI L i].map ic from rfl, ← List.map_append, ← ups_snoc] at o7
        have os7 := m7.own os6 (fun b hb => hbe b hb)
        have hne7 : ∀ b, (Value.slice av (covs L i).length cv).ownBlock = some b → vo'.ownBlock ≠ some b := fun b hb => dis_app d7 (hbe b hb) (os6.lt hb)
        clear g7 hcs n_c6 k_c6 d7 m7 os6 oo6 o4 oo4 hbe
        obtain ⟨ov, oc, hoe, _⟩ := o7.slice
        have hol7 : ((List.range (i + 1)).map (upI L)).length = i + 1 := by simp
        rw [List.length_map, hol7] at hoe
        subst hoe
        have ei : ((i + 1 : Nat) : Int) - 1 = (i : Int) := by omega
        repeat (first | refine Vx ?_ | (apply Ops_q; (case hon => exact Va); (case hd => rfl); (case hq => exact YlA)) | refine Vr ?_ | refine Vt ?_ | refine Vf ?_ | refine Vm ?_ | refine Ve ?_ | refine Vo ?_ | refine Vz ?_)
        rw [ei]
        (refine Ops_lit (by exact Va) rfl rfl rfl ?_; intro w8 c8 n_c8; have k_c8 := n_c8.blk)
        have os8 := os7.ext n_c8.ext
        have oo8 := o7.ext n_c8.ext
        have x8 := x7.trans n_c8.ext
        have hcs : Cells w8 ⟨c8, 0, none⟩ (nc i) := n_c8.blk.cells
        repeat (first | refine Vx ?_ | (apply Ops_q; (case hon => exact Va); (case hd => rfl); (case hq => exact YlA)) | refine Vr ?_ | refine Vt ?_ | refine Vf ?_ | refine Vm ?_ | refine Ve ?_ | refine Vo ?_ | refine Vz ?_)
        refine Ops_append1 (u := nc i) (by exact Va) rfl rfl rfl rfl os8 hcs ⟨rfl⟩ ⟨rfl⟩ (by rw [List.length_map]; omega) rfl x8.size ?_
        intro vs' w9 o9 g9 d9
        have m9 : Mod (fun c => (Value.slice av (covs L i).length cv).ownBlock = some c) w8 w9 := (Mod.of_ext (Ext.refl w8)).grow g9 (fun b hb => .inl hb)
        have x9 : Ext w w9 := Mod.ext_of x8 m9 (fun c hc => os8.ge hc)
        rw [show [nc i] = [i].map nc from rfl, ← List.map_append] at o9
        have oo9 := m9.own oo8 (fun b hb e => hne7 b e hb)
        repeat (first | refine Vx ?_ | (apply Ops_q; (case hon => exact Va); (case hd => rfl); (case hq => exact YlA)) | refine Vr ?_ | refine Vt ?_ | refine Vf ?_ | refine Vm ?_ | refine Ve ?_ | refine Vo ?_ | refine Vz ?_)
        refine ⟨(i + 1, vs', _), (by repeat (first | exact trivial | refine ⟨rfl, ?_⟩)), ⟨hil, x9, o9, oo9, fun b hb hb2 => ?_⟩, by simp only; omega⟩
        rcases d9 with h | ⟨d, h, h2⟩
        · rw [h] at hb
          exact hne7 b hb hb2
        · rw [h] at hb; cases hb
          have := oo8.lt hb2; omega
  · replace hg := of_decide_eq_false hg
    obtain rfl : i = L.length := by omega
    repeat (first | refine Vx ?_ | (apply Ops_q; (case hon => exact Va); (case hd => rfl); (case hq => exact YlA)) | refine Vr ?_ | refine Vt ?_ | refine Vf ?_ | refine Vm ?_ | refine Ve ?_ | refine Vo ?_ | refine Vz ?_)
    refine ret1 (by first | exact .inl rfl | exact .inr rfl) rfl rfl ?_
    exact Gives_mk (fun w' he => oo.ext he) x1
end Go.Proofs.Ytkiidmbkibfbiaa

/-
  Tables (layer 7): size, visible and Trim of the program.
  Conditions: the lists are not too long for a machine.
-/
namespace Go.Proofs.Ytkiidmbkibfbiaa
open Go.RowKit

theorem size_v (p : Pf) (w : World) (hv : p.valid = true) : Calls Try.prog 55 #[p.val] w (Ret (.int .u64 (sizeN p)) w) := by
  obtain ⟨v1, v2, v3⟩ := Pf.valid_iff.1 hv
  have hsz := size_le p
  have i1 : InK .u64 (1 * 2 ^ ((32 : Int) - p.n).toNat) := by rw [size_cast hv]; exact inK_u64 _ (by omega)
  refine V_enter (vs := [_]) Try.func55 rfl Try.ntmps55 (Nat.le_of_ble_eq_true rfl) ?_
  repeat (first | refine Vx ?_ | (apply Ops_q; (case hon => exact Va); (case hd => rfl); (case hq => exact YlA)) | refine Vr ?_ | refine Vt ?_ | refine Vf ?_ | refine Vm ?_ | refine Ve ?_ | refine Vo ?_ | refine Vz ?_)
  (refine Ops_box (by exact Va) rfl rfl rfl ?_; intro w1 b1 n_b1; have k_b1 := n_b1.blk)
  repeat (first | refine Vx ?_ | (apply Ops_q; (case hon => exact Va); (case hd => rfl); (case hq => exact YlA)) | refine Vr ?_ | refine Vt ?_ | refine Vf ?_ | refine Vm ?_ | refine Ve ?_ | refine Vo ?_ | refine Vz ?_)
  refine ret1 (by first | exact .inl rfl | exact .inr rfl) rfl rfl ?_
  exact Ret_mk (by rw [size_cast hv]) n_b1.ext
theorem covN_succ (L : List En) (m j : Nat) : covN L (m + 1) j = covN L m j + if upI L m = (j : Int) then sizeN (gp L m) else 0 := by
  unfold covN kidsL
  rw [List.range_succ, List.filter_append, List.map_append, List.sum_append]
  congr 1
  by_cases h : upI L m = (j : Int)
  · rw [if_pos h, List.filter_cons_of_pos (by simpa using h)]; simp
  · rw [if_neg h, List.filter_cons_of_neg (by simpa using h)]; simp
theorem covN_mono (L : List En) (m j : Nat) : ∀ d, covN L m j ≤ covN L (m + d) j
  | 0 => Nat.le_refl _
  | d + 1 => by
    have := covN_mono L m j d
    rw [← Nat.add_assoc, covN_succ]; omega
theorem covN_le {L : List En} (h : Tb L) {m j : Nat} (hm : m ≤ L.length) (hj : j < L.length) : covN L m j ≤ 4294967296 := by
  have h1 := covN_mono L m j (L.length - m)
  rw [show m + (L.length - m) = L.length by omega] at h1
  have h2 := (kids_cover h hj).1
  have h3 := (size_le (gp L j)).2
  omega
def covD (L : List En) (m : Nat) : List Int := (List.range L.length).map fun j => (covN L m j : Int)
theorem covD_len (L : List En) (m : Nat) : (covD L m).length = L.length := by unfold covD; simp
theorem covD_at {L : List En} {m j : Nat} (hj : j < L.length) : (covD L m)[j]? = some (covN L m j : Int) := by unfold covD; rw [List.getElem?_map, List.getElem?_range hj]; rfl
theorem covD_set {L : List En} {m j : Nat} (hj : j < L.length) (hu : upI L m = (j : Int)) : (covD L m).set j ((covN L m j : Int) + (sizeN (gp L m) : Int)) = covD L (m + 1) := by
  refine List.ext_getElem? fun i => ?_
  by_cases hi : i < L.length
  · rw [covD_at hi, covN_succ]
    by_cases e : j = i
    · subst e
      rw [List.getElem?_set_self (by rw [covD_len]; exact hj), if_pos hu]; simp
    · rw [List.getElem?_set_ne e, covD_at hi, if_neg (fun h => e (by omega))]; rfl
  · rw [List.getElem?_eq_none (by rw [List.length_set, covD_len]; omega), List.getElem?_eq_none (by rw [covD_len]; omega)]
theorem covD_same {L : List En} {m : Nat} (hu : upI L m = -1) : covD L m = covD L (m + 1) := by
  unfold covD
  refine List.map_congr_left fun j _ => ?_
  rw [covN_succ, if_neg (fun h => by omega)]; simp
theorem rangeF_snoc (L : List En) (q : Nat → Bool) (k : Nat) : ((List.range (k + 1)).filter q).map (fun j => L.getD j En.zero) = ((List.range k).filter q).map (fun j => L.getD j En.zero) ++ if q k then [L.getD k En.zero] else [] := by
  rw [List.range_succ, List.filter_append, List.map_append]
  cases hv : q k with
  | true => rw [List.filter_cons_of_pos hv]; rfl
  | false => rw [List.filter_cons_of_neg (by rw [hv]; decide)]; rfl
theorem rangeF_len (L : List En) (q : Nat → Bool) (k : Nat) : (((List.range k).filter q).map (fun j => L.getD j En.zero)).length ≤ k := by
  rw [List.length_map]
  refine Nat.le_trans (List.length_filter_le ..) ?_
  rw [List.length_range]; exact Nat.le_refl _
theorem rep_uc (n : Nat) : List.replicate n [Value.int .u64 0] = (List.replicate n (0 : Int)).map uc := by rw [List.map_replicate]; rfl
theorem covD_zero (L : List En) : covD L 0 = List.replicate L.length (0 : Int) := by
  unfold covD
  refine List.ext_getElem? fun i => ?_
  by_cases hi : i < L.length
  · rw [List.getElem?_map, List.getElem?_range hi, List.getElem?_replicate, if_pos hi]; rfl
  · rw [List.getElem?_eq_none (by simp; omega), List.getElem?_eq_none (by simp; omega)]
set_option maxHeartbeats 4000000 in
theorem visible_v (ao : Option Addr) (L : List En) (c : Nat) (w : World) (hL : Ens w ao L) (hLa : ∀ e ∈ L, e.p.a < 4294967296) (hT : Tb L) (hn : L.length ≤ 1000000) :
    Calls Try.prog 35 #[.slice ao L.length c] w (Gives (fun r w' => Own w' w.heap.size 40 3 r ((visL L).map En.cells)) w) := by
  refine V_enter (vs := [_]) Try.func35 rfl Try.ntmps35 (Nat.le_of_ble_eq_true rfl) ?_
  repeat (first | refine Vx ?_ | (apply Ops_q; (case hon => exact Va); (case hd => rfl); (case hq => exact YlA)) | refine Vr ?_ | refine Vt ?_ | refine Vf ?_ | refine Vm ?_ | refine Ve ?_ | refine Vo ?_ | refine Vz ?_)
  refine Ops_make1 (by exact Va) rfl rfl rfl (by omega) (by unfold maxLen; omega) ?_
  intro w1 g x1 hg o1
  have D1 : DatU w1 w.heap.size g L.length L.length (covD L 0) := ⟨by rw [covD_zero, ← rep_uc]; exact o1, covD_len L 0⟩
  clear o1
  repeat (first | refine Vx ?_ | (apply Ops_q; (case hon => exact Va); (case hd => rfl); (case hq => exact YlA)) | refine Vr ?_ | refine Vt ?_ | refine Vf ?_ | refine Vm ?_ | refine Ve ?_ | refine Vo ?_ | refine Vz ?_)
  (refine Ops_callR (by exact Va) rfl rfl (fun w_ e_ => aboveP_v ao L c w_ (hL.ext (x1.trans e_)) hLa hT hn) ?_; intro v w2 w0_ e0_ e1_ r_v; have e_w2 := e0_.trans e1_; have b_v := e0_.size; clear e0_ e1_)
  have hgl : g < w1.heap.size := D1.own.lt rfl
  have D2 := D1.ext e_w2
  have x2 := x1.trans e_w2
  obtain ⟨ua, uc', rfl, hU⟩ := r_v.slice
  have hub : ∀ a, ua = some a → a.block ≠ g := fun a ha => by
    subst ha
    have : w0_.heap.size ≤ a.block := r_v.ge rfl
    omega
  have hul : (upsL L).length = L.length := by unfold upsL; simp
  rw [List.length_map, hul]
  clear r_v D1 e_w2 b_v
  repeat (first | refine Vx ?_ | (apply Ops_q; (case hon => exact Va); (case hd => rfl); (case hq => exact YlA)) | refine Vr ?_ | refine Vt ?_ | refine Vf ?_ | refine Vm ?_ | refine Ve ?_ | refine Vo ?_ | refine Vz ?_)
  refine V_loop (fun i : Nat => [(15, .int .i64 i), (14, .int .i64 L.length), (13, .slice ua L.length uc'), (3, .slice (some ⟨g, 0, none⟩) L.length L.length), (0, .slice ao L.length c)])
    (fun i w' => i ≤ L.length ∧ Ext w w' ∧ DatU w' w.heap.size g L.length L.length (covD L i) ∧ Arr w' 1 ua ((upsL L).map ic)) (fun i => L.length - i) 0 (by repeat (first | exact trivial | refine ⟨rfl, ?_⟩)) ⟨Nat.zero_le _, x2, D2, hU⟩ ?_
  clear D2 hU x2 x1
  rintro i w3 ⟨hi, x3, D3, hU⟩
  repeat (first | refine Vx ?_ | (apply Ops_q; (case hon => exact Va); (case hd => rfl); (case hq => exact YlA)) | refine Vr ?_ | refine Vt ?_ | refine Vf ?_ | refine Vm ?_ | refine Ve ?_ | refine Vo ?_ | refine Vz ?_)
  refine V_cond rfl (fun hg1 => ?_) (fun hg1 => ?_)
  · replace hg1 := of_decide_eq_true hg1
    have hil : i < L.length := by omega
    obtain ⟨x, hx⟩ : ∃ x, L[i]? = some x := ⟨_, List.getElem?_eq_getElem hil⟩
    obtain ⟨ad, rfl, hc⟩ := hL.at hx
    have hgx := gp_at hx
    have hxv := (hT.ok x (List.mem_of_getElem? hx)).1
    have hc1 : Cells w3 (ad.add (i * 3)) [.int .u32 x.p.a, .int .i64 x.p.n] := fun j u hj => (hc.ext x3) j u (by
      match j, hj with
      | 0, hj => exact hj
      | 1, hj => exact hj)
    obtain ⟨au, rfl, hcu⟩ := hU i (ic (upI L i)) (by rw [List.getElem?_map, upsL, List.getElem?_map, List.getElem?_range hil]; rfl)
    have hcu1 : w3.cell? (au.add (i * 1)) = some (.int .i64 (upI L i)) := by
      have := hcu 0 _ rfl
      rw [add_add, Nat.add_zero] at this; exact this
    repeat (first | refine Vx ?_ | (apply Ops_q; (case hon => exact Va); (case hd => rfl); (case hq => exact YlA)) | refine Vr ?_ | refine Vt ?_ | refine Vf ?_ | refine Vm ?_ | refine Ve ?_ | refine Vo ?_ | refine Vz ?_)
    (apply Ops_q; (case hon => (exact Va)); (case hd => rfl); (case hq => exact Yl_indexS (j := i) rfl rfl (by omega)))
    repeat (first | refine Vx ?_ | (apply Ops_q; (case hon => exact Va); (case hd => rfl); (case hq => exact YlA)) | refine Vr ?_ | refine Vt ?_ | refine Vf ?_ | refine Vm ?_ | refine Ve ?_ | refine Vo ?_ | refine Vz ?_)
    refine V_cond rfl (fun h2 => ?_) (fun h2 => ?_)
    · have h2' := of_decide_eq_true h2
      clear h2
      obtain ⟨j, hj, hji⟩ : ∃ j : Nat, upI L i = (j : Int) ∧ j < i := by
        rcases upI_range (L := L) (i := i) with h | h
        · omega
        · exact h
      have hset := covD_set (L := L) (m := i) (by omega) hj
      have hcell := D3.at (covD_at (L := L) (m := i) (show j < L.length by omega))
      have hle := covN_le hT (m := i + 1) (j := j) (by omega) (by omega)
      rw [covN_succ, if_pos hj, hgx] at hle
      rw [hgx] at hset
      have i1 : InK .u64 ((covN L i j : Int) + (sizeN x.p : Int)) := by rw [← Int.natCast_add]; exact inK_u64 _ (by omega)
      have hjl : j < L.length := by omega
      rw [hj] at hcu1 ⊢
      refine V_region_mixed 11 (by kernel_rfl) (by kernel_rfl) rfl ?_
      repeat (first | refine Vx ?_ | (apply Ops_q; (case hon => exact Va); (case hd => rfl); (case hq => exact YlA)) | refine Vr ?_ | refine Vt ?_ | refine Vf ?_ | refine Vm ?_ | refine Ve ?_ | refine Vo ?_ | refine Vz ?_)
      (apply Ops_q; (case hon => (exact Va)); (case hd => rfl); (case hq => exact Yl_indexS (j := j) rfl rfl (by omega)))
      repeat (first | refine Vx ?_ | (apply Ops_q; (case hon => exact Va); (case hd => rfl); (case hq => exact YlA)) | refine Vr ?_ | refine Vt ?_ | refine Vf ?_ | refine Vm ?_ | refine Ve ?_ | refine Vo ?_ | refine Vz ?_)
      (apply Ops_q; (case hon => (exact Va)); (case hd => rfl); (case hq => exact Yl_indexS (j := i) rfl rfl (by omega)))
      repeat (first | refine Vx ?_ | (apply Ops_q; (case hon => exact Va); (case hd => rfl); (case hq => exact YlA)) | refine Vr ?_ | refine Vt ?_ | refine Vf ?_ | refine Vm ?_ | refine Ve ?_ | refine Vo ?_ | refine Vz ?_)
      (apply Ops_q; (case hon => (exact Va)); (case hd => rfl); (case hq => exact Yl_call rfl (fun w_ e_ => size_v x.p w_ hxv)))
      repeat (first | refine Vx ?_ | (apply Ops_q; (case hon => exact Va); (case hd => rfl); (case hq => exact YlA)) | refine Vr ?_ | refine Vt ?_ | refine Vf ?_ | refine Vm ?_ | refine Ve ?_ | refine Vo ?_ | refine Vz ?_)
      (apply Ops_q; (case hon => (exact Va)); (case hd => rfl); (case hq => exact Yl_indexS (j := j) rfl rfl (by omega)))
      repeat (first | refine Vx ?_ | (apply Ops_q; (case hon => exact Va); (case hd => rfl); (case hq => exact YlA)) | refine Vr ?_ | refine Vt ?_ | refine Vf ?_ | refine Vm ?_ | refine Ve ?_ | refine Vo ?_ | refine Vz ?_)
      refine Ops_storeDatU (i := j) (by exact Va) rfl rfl rfl D3 hjl ?_
      intro w5 D5 g5
      rw [hset] at D5
      have m5 : Mod (fun c => c = g) w3 w5 := (Mod.of_ext (Ext.refl w3)).grow g5 (fun b hb => .inl (by cases hb; rfl))
      have x5 : Ext w w5 := Mod.ext_of x3 m5 (fun c hc => by rw [hc]; exact hg)
      have hU5 := m5.arr hU (fun a ha => hub a ha)
      repeat (first | refine Vx ?_ | (apply Ops_q; (case hon => exact Va); (case hd => rfl); (case hq => exact YlA)) | refine Vr ?_ | refine Vt ?_ | refine Vf ?_ | refine Vm ?_ | refine Ve ?_ | refine Vo ?_ | refine Vz ?_)
      exact ⟨i + 1, (by repeat (first | exact trivial | refine ⟨rfl, ?_⟩)), ⟨hil, x5, D5, hU5⟩, by omega⟩
    · have h2' := of_decide_eq_false h2
      clear h2
      have hj : upI L i = -1 := by
        rcases upI_range (L := L) (i := i) with h | ⟨j, h, _⟩
        · exact h
        · omega
      rw [covD_same hj] at D3
      repeat (first | refine Vx ?_ | (apply Ops_q; (case hon => exact Va); (case hd => rfl); (case hq => exact YlA)) | refine Vr ?_ | refine Vt ?_ | refine Vf ?_ | refine Vm ?_ | refine Ve ?_ | refine Vo ?_ | refine Vz ?_)
      exact ⟨i + 1, (by repeat (first | exact trivial | refine ⟨rfl, ?_⟩)), ⟨hil, x3, D3, hU⟩, by omega⟩
  replace hg1 := of_decide_eq_false hg1
  obtain rfl : i = L.length := by omega
  clear hU hub hul hg1
  repeat (first | refine Vx ?_ | (apply Ops_q; (case hon => exact Va); (case hd => rfl); (case hq => exact YlA)) | refine Vr ?_ | refine Vt ?_ | refine Vf ?_ | refine Vm ?_ | refine Ve ?_ | refine Vo ?_ | refine Vz ?_)
  refine V_loop (fun s : Nat × Value => [(37, .int .i64 s.1), (36, .int .i64 L.length), (35, .slice ao L.length c), (3, .slice (some ⟨g, 0, none⟩) L.length L.length), (6, s.2)])
    (fun s w' => s.1 ≤ L.length ∧ Ext w3 w' ∧ Own w' w3.heap.size 40 3 s.2 ((((List.range s.1).filter fun j => decide (covN L L.length j < sizeN (gp L j))).map fun j => L.getD j En.zero).map En.cells)) (fun s => L.length - s.1) (0, .slice none 0 0) (by repeat (first | exact trivial | refine ⟨rfl, ?_⟩)) ⟨Nat.zero_le _, Ext.refl _, Own.nil⟩ ?_
  rintro ⟨i, v⟩ w4 ⟨hi, x4, o4⟩
  dsimp only at hi o4 ⊢
  repeat (first | refine Vx ?_ | (apply Ops_q; (case hon => exact Va); (case hd => rfl); (case hq => exact YlA)) | refine Vr ?_ | refine Vt ?_ | refine Vf ?_ | refine Vm ?_ | refine Ve ?_ | refine Vo ?_ | refine Vz ?_)
  refine V_cond rfl (fun hg2 => ?_) (fun hg2 => ?_)
  · replace hg2 := of_decide_eq_true hg2
    have hil : i < L.length := by omega
    obtain ⟨x, hx⟩ : ∃ x, L[i]? = some x := ⟨_, List.getElem?_eq_getElem hil⟩
    obtain ⟨ad, rfl, hc⟩ := hL.at hx
    have hgx := gp_at hx
    have hgd := gd_at hx
    have hxv := (hT.ok x (List.mem_of_getElem? hx)).1
    have hc1 : Cells w4 (ad.add (i * 3)) [.int .u32 x.p.a, .int .i64 x.p.n, .int .i64 x.v] := (hc.ext x3).ext x4
    have hsn := rangeF_snoc L (fun j => decide (covN L L.length j < sizeN (gp L j))) i
    have hll := rangeF_len L (fun j => decide (covN L L.length j < sizeN (gp L j))) i
    rw [hgd] at hsn
    repeat (first | refine Vx ?_ | (apply Ops_q; (case hon => exact Va); (case hd => rfl); (case hq => exact YlA)) | refine Vr ?_ | refine Vt ?_ | refine Vf ?_ | refine Vm ?_ | refine Ve ?_ | refine Vo ?_ | refine Vz ?_)
    (apply Ops_q; (case hon => (exact Va)); (case hd => rfl); (case hq => exact Yl_indexS (j := i) rfl rfl (by omega)))
    repeat (first | refine Vx ?_ | (apply Ops_q; (case hon => exact Va); (case hd => rfl); (case hq => exact YlA)) | refine Vr ?_ | refine Vt ?_ | refine Vf ?_ | refine Vm ?_ | refine Ve ?_ | refine Vo ?_ | refine Vz ?_)
    (refine Ops_alloc (by exact Va) rfl ?_; intro w5 b8 n_b8; have k_b8 := n_b8.blk)
    repeat (first | refine Vx ?_ | (apply Ops_q; (case hon => exact Va); (case hd => rfl); (case hq => exact YlA)) | refine Vr ?_ | refine Vt ?_ | refine Vf ?_ | refine Vm ?_ | refine Ve ?_ | refine Vo ?_ | refine Vz ?_)
    (refine Ops_store (by exact Va) rfl rfl (by assumption) (by first | rfl | exact OneAll.h) ?_; intro w6 u_w6; have k_b8 := u_w6.blk)
    have y6 := u_w6.below n_b8.ext n_b8.ge
    have x6 := x4.trans y6
    have o6 := o4.ext y6
    have hcell := (D3.ext x6).at (covD_at (L := L) (m := L.length) hil)
    have hxp : Cells w6 ⟨b8, 0, none⟩ [.int .u32 x.p.a, .int .i64 x.p.n] := k_b8.part 0 2
    clear u_w6 n_b8 o4 hc1
    repeat (first | refine Vx ?_ | (apply Ops_q; (case hon => exact Va); (case hd => rfl); (case hq => exact YlA)) | refine Vr ?_ | refine Vt ?_ | refine Vf ?_ | refine Vm ?_ | refine Ve ?_ | refine Vo ?_ | refine Vz ?_)
    (apply Ops_q; (case hon => (exact Va)); (case hd => rfl); (case hq => exact Yl_indexS (j := i) rfl rfl (by omega)))
    repeat (first | refine Vx ?_ | (apply Ops_q; (case hon => exact Va); (case hd => rfl); (case hq => exact YlA)) | refine Vr ?_ | refine Vt ?_ | refine Vf ?_ | refine Vm ?_ | refine Ve ?_ | refine Vo ?_ | refine Vz ?_)
    (apply Ops_q; (case hon => (exact Va)); (case hd => rfl); (case hq => exact Yl_call rfl (fun w_ e_ => size_v x.p w_ hxv)))
    repeat (first | refine Vx ?_ | (apply Ops_q; (case hon => exact Va); (case hd => rfl); (case hq => exact YlA)) | refine Vr ?_ | refine Vt ?_ | refine Vf ?_ | refine Vm ?_ | refine Ve ?_ | refine Vo ?_ | refine Vz ?_)
    refine V_cond rfl (fun h2 => ?_) (fun h2 => ?_)
    · have h3 : covN L L.length i < sizeN (gp L i) := by have := of_decide_eq_true h2; rw [hgx]; omega
      clear h2
      rw [if_pos (decide_eq_true h3)] at hsn
      clear hxp
      repeat (first | refine Vx ?_ | (apply Ops_q; (case hon => exact Va); (case hd => rfl); (case hq => exact YlA)) | refine Vr ?_ | refine Vt ?_ | refine Vf ?_ | refine Vm ?_ | refine Ve ?_ | refine Vo ?_ | refine Vz ?_)
      (refine Ops_lit (by exact Va) rfl rfl rfl ?_; intro wq bq n_bq; have k_bq := n_bq.blk)
      have oq := o6.ext n_bq.ext
      have xq := x6.trans n_bq.ext
      have hcs : Cells wq ⟨bq, 0, none⟩ x.cells := n_bq.blk.cells
      repeat (first | refine Vx ?_ | (apply Ops_q; (case hon => exact Va); (case hd => rfl); (case hq => exact YlA)) | refine Vr ?_ | refine Vt ?_ | refine Vf ?_ | refine Vm ?_ | refine Ve ?_ | refine Vo ?_ | refine Vz ?_)
      refine Ops_append1 (u := x.cells) (by exact Va) rfl rfl rfl rfl oq hcs ⟨rfl⟩ ⟨rfl⟩ (by rw [List.length_map]; omega) rfl xq.size ?_
      intro v' wr or_ gr dr
      have mr : Mod (fun c => v.ownBlock = some c) w6 wr := (Mod.of_ext n_bq.ext).grow gr (fun b hb => .inl hb)
      have xr : Ext w3 wr := Mod.ext_of x6 mr (fun c hc => oq.ge hc)
      rw [show [x.cells] = [x].map En.cells from rfl, ← List.map_append] at or_
      clear gr hcs oq xq n_bq k_bq
      repeat (first | refine Vx ?_ | (apply Ops_q; (case hon => exact Va); (case hd => rfl); (case hq => exact YlA)) | refine Vr ?_ | refine Vt ?_ | refine Vf ?_ | refine Vm ?_ | refine Ve ?_ | refine Vo ?_ | refine Vz ?_)
      refine ⟨(i + 1, v'), (by repeat (first | exact trivial | refine ⟨rfl, ?_⟩)), ⟨hil, xr, ?_⟩, by simp only; omega⟩
      dsimp only
      rw [hsn]; exact or_
    · have h3 : ¬covN L L.length i < sizeN (gp L i) := by have := of_decide_eq_false h2; rw [hgx]; omega
      clear h2
      rw [if_neg (by simpa using h3), List.append_nil] at hsn
      repeat (first | refine Vx ?_ | (apply Ops_q; (case hon => exact Va); (case hd => rfl); (case hq => exact YlA)) | refine Vr ?_ | refine Vt ?_ | refine Vf ?_ | refine Vm ?_ | refine Ve ?_ | refine Vo ?_ | refine Vz ?_)
      refine ⟨(i + 1, v), (by repeat (first | exact trivial | refine ⟨rfl, ?_⟩)), ⟨hil, x6, ?_⟩, by simp only; omega⟩
      dsimp only
      rw [hsn]; exact o6
  replace hg2 := of_decide_eq_false hg2
  obtain rfl : i = L.length := by omega
  repeat (first | refine Vx ?_ | (apply Ops_q; (case hon => exact Va); (case hd => rfl); (case hq => exact YlA)) | refine Vr ?_ | refine Vt ?_ | refine Vf ?_ | refine Vm ?_ | refine Ve ?_ | refine Vo ?_ | refine Vz ?_)
  refine ret1 (by first | exact .inl rfl | exact .inr rfl) rfl rfl ?_
  exact Gives_mk (fun w' he => (o4.ext he).mono x3.size) (x3.trans x4)
theorem upV_upI {S : List En} {i : Nat} : (upI S i = -1 ∧ upV S i = -1) ∨ ∃ j : Nat, upI S i = (j : Int) ∧ j < i ∧ upV S i = (S.getD j En.zero).v := by
  cases hl : (covs S i).getLast? with
  | none => exact .inl ⟨by rw [upI, lastI, hl], by rw [upV, hl]⟩
  | some j =>
    have h1 : upI S i = (j : Int) := by rw [upI, lastI, hl]
    exact .inr ⟨j, h1, (upI_iff.1 h1).1, by rw [upV, hl]⟩
theorem visL_len (L : List En) : (visL L).length ≤ L.length := rangeF_len L _ L.length
set_option maxHeartbeats 4000000 in
theorem trim_v (ao : Option Addr) (L : List En) (c : Nat) (w : World) (hL : Ens w ao L) (hLa : ∀ e ∈ L, e.p.a < 4294967296) (hn : L.length ≤ 1000000) :
    Calls Try.prog 19 #[.slice ao L.length c] w (Gives (TrmR w L) w) := by
  refine V_enter (vs := [_]) Try.func19 rfl Try.ntmps19 (Nat.le_of_ble_eq_true rfl) ?_
  repeat (first | refine Vx ?_ | (apply Ops_q; (case hon => exact Va); (case hd => rfl); (case hq => exact YlA)) | refine Vr ?_ | refine Vt ?_ | refine Vf ?_ | refine Vm ?_ | refine Ve ?_ | refine Vo ?_ | refine Vz ?_)
  (apply Ops_q; (case hon => (exact Va)); (case hd => rfl); (case hq => exact Yl_call rfl (fun w_ e_ => check_v ao L c w_ (hL.ext e_) hLa hn)))
  repeat (first | refine Vx ?_ | (apply Ops_q; (case hon => exact Va); (case hd => rfl); (case hq => exact YlA)) | refine Vr ?_ | refine Vt ?_ | refine Vf ?_ | refine Vm ?_ | refine Ve ?_ | refine Vo ?_ | refine Vz ?_)
  refine V_cond rfl (fun h1 => ?_) (fun h1 => ?_)
  · have h0 : ¬chk L = 0 := by simpa using h1
    repeat (first | refine Vx ?_ | (apply Ops_q; (case hon => exact Va); (case hd => rfl); (case hq => exact YlA)) | refine Vr ?_ | refine Vt ?_ | refine Vf ?_ | refine Vm ?_ | refine Ve ?_ | refine Vo ?_ | refine Vz ?_)
    refine ret2 (by first | exact .inl rfl | exact .inr rfl) rfl rfl rfl ?_
    exact Gives_mk (fun w' he => ⟨_, rfl, by rw [trmT, if_neg h0]; exact Own.nil⟩) (Ext.refl _)
  have h0 : chk L = 0 := by simpa using h1
  clear h1
  have hTL := (chk_iff.1 h0).2
  have htr : trmT L = trimI (visL L) := by rw [trmT, if_pos h0]; rfl
  have hSl := visL_len L
  have hSt : Tb (visL L) := by rw [visL_eq hTL]; exact visP_tb hTL
  have hSa : ∀ e ∈ visL L, e.p.a < 4294967296 := fun e he => by rw [visL_eq hTL] at he; exact hLa e (visP_mem.1 he).1
  repeat (first | refine Vx ?_ | (apply Ops_q; (case hon => exact Va); (case hd => rfl); (case hq => exact YlA)) | refine Vr ?_ | refine Vt ?_ | refine Vf ?_ | refine Vm ?_ | refine Ve ?_ | refine Vo ?_ | refine Vz ?_)
  (refine Ops_callR (by exact Va) rfl rfl (fun w_ e_ => visible_v ao L c w_ (hL.ext e_) hLa hTL hn) ?_; intro v w1 w0_ e0_ e1_ r_v; have e_w1 := e0_.trans e1_; have b_v := e0_.size; clear e0_ e1_)
  obtain ⟨au, cu, rfl, hA⟩ := r_v.slice
  have x1 := e_w1
  rw [List.length_map]
  clear r_v b_v
  generalize visL L = S at *
  have hS : Ens w1 au S := hA
  repeat (first | refine Vx ?_ | (apply Ops_q; (case hon => exact Va); (case hd => rfl); (case hq => exact YlA)) | refine Vr ?_ | refine Vt ?_ | refine Vf ?_ | refine Vm ?_ | refine Ve ?_ | refine Vo ?_ | refine Vz ?_)
  (refine Ops_callR (by exact Va) rfl rfl (fun w_ e_ => aboveP_v au S cu w_ (hS.ext e_) hSa hSt (by omega)) ?_; intro v w2 w0_ e0_ e1_ r_v; have e_w2 := e0_.trans e1_; have b_v := e0_.size; clear e0_ e1_)
  obtain ⟨ua, uc', rfl, hU⟩ := r_v.slice
  have hul : (upsL S).length = S.length := by unfold upsL; simp
  rw [List.length_map, hul]
  have hS2 := hS.ext e_w2
  have x2 := x1.trans e_w2
  clear r_v b_v hul
  repeat (first | refine Vx ?_ | (apply Ops_q; (case hon => exact Va); (case hd => rfl); (case hq => exact YlA)) | refine Vr ?_ | refine Vt ?_ | refine Vf ?_ | refine Vm ?_ | refine Ve ?_ | refine Vo ?_ | refine Vz ?_)
  refine V_loop (fun s : Nat × Value => [(20, .int .i64 s.1), (19, .int .i64 S.length), (18, .slice ua S.length uc'), (5, .slice au S.length cu), (6, s.2)])
    (fun s w' => s.1 ≤ S.length ∧ Ext w2 w' ∧ Own w' w2.heap.size 40 3 s.2 ((((List.range s.1).filter fun i => decide ((S.getD i En.zero).v ≠ upV S i)).map fun j => S.getD j En.zero).map En.cells)) (fun s => S.length - s.1) (0, .slice none 0 0) (by repeat (first | exact trivial | refine ⟨rfl, ?_⟩)) ⟨Nat.zero_le _, Ext.refl _, Own.nil⟩ ?_
  rintro ⟨i, v⟩ w4 ⟨hi, x4, o4⟩
  dsimp only at hi o4 ⊢
  repeat (first | refine Vx ?_ | (apply Ops_q; (case hon => exact Va); (case hd => rfl); (case hq => exact YlA)) | refine Vr ?_ | refine Vt ?_ | refine Vf ?_ | refine Vm ?_ | refine Ve ?_ | refine Vo ?_ | refine Vz ?_)
  refine V_cond rfl (fun hg2 => ?_) (fun hg2 => ?_)
  · replace hg2 := of_decide_eq_true hg2
    have hil : i < S.length := by omega
    obtain ⟨x, hx⟩ : ∃ x, S[i]? = some x := ⟨_, List.getElem?_eq_getElem hil⟩
    obtain ⟨ad, rfl, hc⟩ := hS2.at hx
    have hgd := gd_at hx
    have hc1 : Cells w4 (ad.add (i * 3)) [.int .u32 x.p.a, .int .i64 x.p.n, .int .i64 x.v] := hc.ext x4
    have hxv : w4.cell? ((ad.add (i * 3)).add 2) = some (.int .i64 x.v) := hc1 2 _ rfl
    have hsn := rangeF_snoc S (fun i => decide ((S.getD i En.zero).v ≠ upV S i)) i
    have hll := rangeF_len S (fun i => decide ((S.getD i En.zero).v ≠ upV S i)) i
    rw [hgd] at hsn
    obtain ⟨adu, rfl, hcu⟩ := hU i (ic (upI S i)) (by rw [List.getElem?_map, upsL, List.getElem?_map, List.getElem?_range hil]; rfl)
    have hcu1 : w4.cell? (adu.add (i * 1)) = some (.int .i64 (upI S i)) := by
      have := (hcu.ext x4) 0 _ rfl
      rw [add_add, Nat.add_zero] at this; exact this
    have huv := upV_upI (S := S) (i := i)
    repeat (first | refine Vx ?_ | (apply Ops_q; (case hon => exact Va); (case hd => rfl); (case hq => exact YlA)) | refine Vr ?_ | refine Vt ?_ | refine Vf ?_ | refine Vm ?_ | refine Ve ?_ | refine Vo ?_ | refine Vz ?_)
    (apply Ops_q; (case hon => (exact Va)); (case hd => rfl); (case hq => exact Yl_indexS (j := i) rfl rfl (by omega)))
    repeat (first | refine Vx ?_ | (apply Ops_q; (case hon => exact Va); (case hd => rfl); (case hq => exact YlA)) | refine Vr ?_ | refine Vt ?_ | refine Vf ?_ | refine Vm ?_ | refine Ve ?_ | refine Vo ?_ | refine Vz ?_)
    refine V_meet1 (fun _ : Unit => [(9, .int .i64 (upV S i)), (7, .int .i64 i), (20, .int .i64 i), (19, .int .i64 S.length), (18, .slice (some adu) S.length uc'), (5, .slice (some ad) S.length cu), (6, v)]) (fun _ w' => w' = w4) ?_ ?_
    · refine V_cond rfl (fun h2 => ?_) (fun h2 => ?_)
      · have h2' := of_decide_eq_true h2
        clear h2
        obtain ⟨j, hj, hji, hjv⟩ : ∃ j : Nat, upI S i = (j : Int) ∧ j < i ∧ upV S i = (S.getD j En.zero).v := by
          rcases huv with h | h
          · omega
          · exact h
        have hjl : j < S.length := by omega
        obtain ⟨y, hy⟩ : ∃ y, S[j]? = some y := ⟨_, List.getElem?_eq_getElem hjl⟩
        obtain ⟨_, e', hcy⟩ := hS2.at hy
        cases e'
        rw [gd_at hy] at hjv
        have hyv : w4.cell? ((ad.add (j * 3)).add 2) = some (.int .i64 (upV S i)) := by rw [hjv]; exact (hcy.ext x4) 2 _ rfl
        rw [hj]
        repeat (first | refine Vx ?_ | (apply Ops_q; (case hon => exact Va); (case hd => rfl); (case hq => exact YlA)) | refine Vr ?_ | refine Vt ?_ | refine Vf ?_ | refine Vm ?_ | refine Ve ?_ | refine Vo ?_ | refine Vz ?_)
        (apply Ops_q; (case hon => (exact Va)); (case hd => rfl); (case hq => exact Yl_indexS (j := j) rfl rfl (by omega)))
        repeat (first | refine Vx ?_ | (apply Ops_q; (case hon => exact Va); (case hd => rfl); (case hq => exact YlA)) | refine Vr ?_ | refine Vt ?_ | refine Vf ?_ | refine Vm ?_ | refine Ve ?_ | refine Vo ?_ | refine Vz ?_)
        exact ⟨(), (by repeat (first | exact trivial | refine ⟨rfl, ?_⟩)), rfl⟩
      · have h2' := of_decide_eq_false h2
        clear h2
        have hjv : upV S i = -1 := by
          rcases huv with h | ⟨j, h, _⟩
          · exact h.2
          · omega
        repeat (first | refine Vx ?_ | (apply Ops_q; (case hon => exact Va); (case hd => rfl); (case hq => exact YlA)) | refine Vr ?_ | refine Vt ?_ | refine Vf ?_ | refine Vm ?_ | refine Ve ?_ | refine Vo ?_ | refine Vz ?_)
        refine ⟨(), ?_, rfl⟩
        rw [hjv]
        exact (by repeat (first | exact trivial | refine ⟨rfl, ?_⟩))
    · rintro _ w5 rfl
      repeat (first | refine Vx ?_ | (apply Ops_q; (case hon => exact Va); (case hd => rfl); (case hq => exact YlA)) | refine Vr ?_ | refine Vt ?_ | refine Vf ?_ | refine Vm ?_ | refine Ve ?_ | refine Vo ?_ | refine Vz ?_)
      (apply Ops_q; (case hon => (exact Va)); (case hd => rfl); (case hq => exact Yl_indexS (j := i) rfl rfl (by omega)))
      repeat (first | refine Vx ?_ | (apply Ops_q; (case hon => exact Va); (case hd => rfl); (case hq => exact YlA)) | refine Vr ?_ | refine Vt ?_ | refine Vf ?_ | refine Vm ?_ | refine Ve ?_ | refine Vo ?_ | refine Vz ?_)
      refine V_cond rfl (fun h2 => ?_) (fun h2 => ?_)
      · have h3 : x.v ≠ upV S i := by simpa using h2
        clear h2
        rw [if_pos (decide_eq_true h3)] at hsn
        clear hxv
        repeat (first | refine Vx ?_ | (apply Ops_q; (case hon => exact Va); (case hd => rfl); (case hq => exact YlA)) | refine Vr ?_ | refine Vt ?_ | refine Vf ?_ | refine Vm ?_ | refine Ve ?_ | refine Vo ?_ | refine Vz ?_)
        (apply Ops_q; (case hon => (exact Va)); (case hd => rfl); (case hq => exact Yl_indexS (j := i) rfl rfl (by omega)))
        repeat (first | refine Vx ?_ | (apply Ops_q; (case hon => exact Va); (case hd => rfl); (case hq => exact YlA)) | refine Vr ?_ | refine Vt ?_ | refine Vf ?_ | refine Vm ?_ | refine Ve ?_ | refine Vo ?_ | refine Vz ?_)
        (refine Ops_lit (by exact Va) rfl rfl rfl ?_; intro wq bq n_bq; have k_bq := n_bq.blk)
        have oq := o4.ext n_bq.ext
        have xq := x4.trans n_bq.ext
        have hcs : Cells wq ⟨bq, 0, none⟩ x.cells := n_bq.blk.cells
        repeat (first | refine Vx ?_ | (apply Ops_q; (case hon => exact Va); (case hd => rfl); (case hq => exact YlA)) | refine Vr ?_ | refine Vt ?_ | refine Vf ?_ | refine Vm ?_ | refine Ve ?_ | refine Vo ?_ | refine Vz ?_)
        refine Ops_append1 (u := x.cells) (by exact Va) rfl rfl rfl rfl oq hcs ⟨rfl⟩ ⟨rfl⟩ (by rw [List.length_map]; omega) rfl xq.size ?_
        intro v' wr or_ gr dr
        have mr : Mod (fun c => v.ownBlock = some c) w5 wr := (Mod.of_ext n_bq.ext).grow gr (fun b hb => .inl hb)
        have xr : Ext w2 wr := Mod.ext_of x4 mr (fun c hc => oq.ge hc)
        rw [show [x.cells] = [x].map En.cells from rfl, ← List.map_append] at or_
        clear gr hcs oq xq n_bq k_bq
        repeat (first | refine Vx ?_ | (apply Ops_q; (case hon => exact Va); (case hd => rfl); (case hq => exact YlA)) | refine Vr ?_ | refine Vt ?_ | refine Vf ?_ | refine Vm ?_ | refine Ve ?_ | refine Vo ?_ | refine Vz ?_)
        refine ⟨(i + 1, v'), (by repeat (first | exact trivial | refine ⟨rfl, ?_⟩)), ⟨hil, xr, ?_⟩, by simp only; omega⟩
        dsimp only
        rw [hsn]; exact or_
      · have h3 : x.v = upV S i := by simpa using h2
        clear h2
        rw [if_neg (by simpa using h3), List.append_nil] at hsn
        repeat (first | refine Vx ?_ | (apply Ops_q; (case hon => exact Va); (case hd => rfl); (case hq => exact YlA)) | refine Vr ?_ | refine Vt ?_ | refine Vf ?_ | refine Vm ?_ | refine Ve ?_ | refine Vo ?_ | refine Vz ?_)
        refine ⟨(i + 1, v), (by repeat (first | exact trivial | refine ⟨rfl, ?_⟩)), ⟨hil, x4, ?_⟩, by simp only; omega⟩
        dsimp only
        rw [hsn]; exact o4
  replace hg2 := of_decide_eq_false hg2
  obtain rfl : i = S.length := by omega
  repeat (first | refine Vx ?_ | (apply Ops_q; (case hon => exact Va); (case hd => rfl); (case hq => exact YlA)) | refine Vr ?_ | refine Vt ?_ | refine Vf ?_ | refine Vm ?_ | refine Ve ?_ | refine Vo ?_ | refine Vz ?_)
  refine ret2 (by first | exact .inl rfl | exact .inr rfl) rfl rfl rfl ?_
  exact Gives_mk (fun w' he => ⟨_, by rw [h0], by rw [htr]; exact (o4.ext he).mono x2.size⟩) (x2.trans x4)
end Go.Proofs.Ytkiidmbkibfbiaa

/-
  Tables (layer 7): the chapter's examples.
  No conditions.
-/
namespace Go.Proofs.Ytkiidmbkibfbiaa
open Go.RowKit

theorem own_sl {w : World} {base : Nat} {v : Value} {M : List En} (h : Own w base 40 3 v (M.map En.cells)) : ∃ ao c, v = .slice ao M.length c ∧ Sl w ao M.length c M := by
  obtain ⟨ao, c, h1, h2, h3, h4⟩ := h.slice2
  rw [List.length_map] at h1 h3
  exact ⟨ao, c, h1, rfl, h2, h3, h4⟩
def lH : List En := [⟨⟨0, 0⟩, 1⟩, ⟨⟨167772160, 9⟩, 2⟩, ⟨⟨176160768, 9⟩, 2⟩]
def lT : List En := [⟨⟨167772160, 8⟩, 1⟩, ⟨⟨167772160, 9⟩, 1⟩, ⟨⟨176160768, 9⟩, 2⟩]
def lO : List En := [⟨⟨0, 1⟩, 1⟩, ⟨⟨2147483648, 1⟩, 1⟩]
def mH : List En := [⟨⟨0, 0⟩, 1⟩, ⟨⟨167772160, 8⟩, 2⟩]
def mT : List En := [⟨⟨167772160, 9⟩, 1⟩, ⟨⟨176160768, 9⟩, 2⟩]
def mO : List En := [⟨⟨0, 0⟩, 1⟩]
theorem kH : minT lH = mH := by kernel_rfl
theorem kT : trmT lT = mT := by kernel_rfl
theorem kO : minT lO = mO := by kernel_rfl
theorem cH : chk lH = 0 := by kernel_rfl
theorem cT : chk lT = 0 := by kernel_rfl
theorem cO : chk lO = 0 := by kernel_rfl
theorem sH : samT lH mH = true := by kernel_rfl
theorem k1 : lkT lH 167772160 = 2 := by kernel_rfl
theorem k2 : lkT lH 0 = 1 := by kernel_rfl
theorem Ens.of_blk' {w : World} {b : Nat} {t : TypeId} {cs : List Value} {L : List En} (h : Blk w b t cs) (e : (L.map En.cells).flatten = cs) : Ens w (some ⟨b, 0, none⟩) L := by
  refine fun k x hk => ⟨_, rfl, cells_flat (n0 := 3) ?_ (fun x hx => ?_) k x hk⟩
  · rw [e]; exact h.cells
  · obtain ⟨y, _, rfl⟩ := List.mem_map.1 hx
    rfl
theorem halvesL_v (w : World) : Calls Try.prog 24 #[] w (Gives (fun r w' => ∃ b, r = .slice (some ⟨b, 0, none⟩) lH.length 3 ∧ Sl w' (some ⟨b, 0, none⟩) lH.length 3 lH) w) := by
  refine V_enter (vs := []) Try.func24 rfl Try.ntmps24 (Nat.le_of_ble_eq_true rfl) ?_
  repeat (first | refine Vx ?_ | (apply Ops_q; (case hon => exact Va); (case hd => rfl); (case hq => exact YlA)) | refine Vr ?_ | refine Vt ?_ | refine Vf ?_ | refine Vm ?_ | refine Ve ?_ | refine Vo ?_ | refine Vz ?_)
  (refine Ops_lit (by exact Va) rfl rfl rfl ?_; intro w1 b1 n_b1; have k_b1 := n_b1.blk)
  repeat (first | refine Vx ?_ | (apply Ops_q; (case hon => exact Va); (case hd => rfl); (case hq => exact YlA)) | refine Vr ?_ | refine Vt ?_ | refine Vf ?_ | refine Vm ?_ | refine Ve ?_ | refine Vo ?_ | refine Vz ?_)
  refine ret1 (by first | exact .inl rfl | exact .inr rfl) rfl rfl ?_
  exact Gives_mk (fun w' he => ⟨b1, rfl, rfl, (Ens.of_blk' k_b1 rfl).ext he, Nat.le_refl _, fun h => nomatch h⟩) n_b1.ext
set_option maxRecDepth 100000 in
set_option maxHeartbeats 2000000 in
theorem awake7_v (w : World) : Calls Try.prog 10 #[] w (Ret (.bool true) w) := by
  have aH : ∀ e ∈ lH, e.p.a < 4294967296 := by decide
  have aT : ∀ e ∈ lT, e.p.a < 4294967296 := by decide
  have aO : ∀ e ∈ lO, e.p.a < 4294967296 := by decide
  have hm0 : 0 < mO.length := by decide
  have aM : ∀ e ∈ mH, e.p.a < 4294967296 := by decide
  refine V_enter (vs := []) Try.func10 rfl Try.ntmps10 (Nat.le_of_ble_eq_true rfl) ?_
  repeat (first | refine Vx ?_ | (apply Ops_q; (case hon => exact Va); (case hd => rfl); (case hq => exact YlA)) | refine Vr ?_ | refine Vt ?_ | refine Vf ?_ | refine Vm ?_ | refine Ve ?_ | refine Vo ?_ | refine Vz ?_)
  (refine Ops_callR (by exact Va) rfl rfl (fun w_ e_ => halvesL_v w_) ?_; intro v w1 w0_ e0_ e1_ r_v; have e_w1 := e0_.trans e1_; have b_v := e0_.size; clear e0_ e1_)
  obtain ⟨b1, rfl, hS⟩ := r_v
  have x1 := e_w1
  clear b_v e_w1
  repeat (first | refine Vx ?_ | (apply Ops_q; (case hon => exact Va); (case hd => rfl); (case hq => exact YlA)) | refine Vr ?_ | refine Vt ?_ | refine Vf ?_ | refine Vm ?_ | refine Ve ?_ | refine Vo ?_ | refine Vz ?_)
  (refine Ops_callR (by exact Va) rfl rfl (fun w_ e_ => minimal_v (some ⟨b1, 0, none⟩) lH 3 w_ (hS.ext e_) aH (by decide)) ?_; intro v w2 w0_ e0_ e1_ r_v; have e_w2 := e0_.trans e1_; have b_v := e0_.size; clear e0_ e1_)
  obtain ⟨v, rfl, hO⟩ := r_v
  rw [kH] at hO
  obtain ⟨am, cm, rfl, hM⟩ := own_sl hO
  rw [cH]
  have x2 := x1.trans e_w2
  replace hS := hS.ext e_w2
  clear b_v e_w2 hO
  repeat (first | refine Vx ?_ | (apply Ops_q; (case hon => exact Va); (case hd => rfl); (case hq => exact YlA)) | refine Vr ?_ | refine Vt ?_ | refine Vf ?_ | refine Vm ?_ | refine Ve ?_ | refine Vo ?_ | refine Vz ?_)
  (refine Ops_lit (by exact Va) rfl rfl rfl ?_; intro w3 b3 n_b3; have k_b3 := n_b3.blk)
  have hT : Sl w3 (some ⟨b3, 0, none⟩) lT.length 3 lT := ⟨rfl, .of_blk' k_b3 rfl, Nat.le_refl _, fun h => nomatch h⟩
  have x3 := x2.trans n_b3.ext
  replace hS := hS.ext n_b3.ext
  replace hM := hM.ext n_b3.ext
  clear n_b3 k_b3
  repeat (first | refine Vx ?_ | (apply Ops_q; (case hon => exact Va); (case hd => rfl); (case hq => exact YlA)) | refine Vr ?_ | refine Vt ?_ | refine Vf ?_ | refine Vm ?_ | refine Ve ?_ | refine Vo ?_ | refine Vz ?_)
  (refine Ops_callR (by exact Va) rfl rfl (fun w_ e_ => trim_v (some ⟨b3, 0, none⟩) lT 3 w_ (hT.ens.ext e_) aT (by decide)) ?_; intro v w4 w0_ e0_ e1_ r_v; have e_w4 := e0_.trans e1_; have b_v := e0_.size; clear e0_ e1_)
  obtain ⟨v, rfl, hO⟩ := r_v
  rw [kT] at hO
  obtain ⟨at_, ct, rfl, hTT⟩ := own_sl hO
  rw [cT]
  have x4 := x3.trans e_w4
  replace hS := hS.ext e_w4
  replace hM := hM.ext e_w4
  clear b_v e_w4 hO hT
  repeat (first | refine Vx ?_ | (apply Ops_q; (case hon => exact Va); (case hd => rfl); (case hq => exact YlA)) | refine Vr ?_ | refine Vt ?_ | refine Vf ?_ | refine Vm ?_ | refine Ve ?_ | refine Vo ?_ | refine Vz ?_)
  (refine Ops_lit (by exact Va) rfl rfl rfl ?_; intro w5 b5 n_b5; have k_b5 := n_b5.blk)
  have hT : Sl w5 (some ⟨b5, 0, none⟩) lO.length 2 lO := ⟨rfl, .of_blk' k_b5 rfl, Nat.le_refl _, fun h => nomatch h⟩
  have x5 := x4.trans n_b5.ext
  replace hS := hS.ext n_b5.ext
  replace hM := hM.ext n_b5.ext
  clear n_b5 k_b5 hTT
  repeat (first | refine Vx ?_ | (apply Ops_q; (case hon => exact Va); (case hd => rfl); (case hq => exact YlA)) | refine Vr ?_ | refine Vt ?_ | refine Vf ?_ | refine Vm ?_ | refine Ve ?_ | refine Vo ?_ | refine Vz ?_)
  (refine Ops_callR (by exact Va) rfl rfl (fun w_ e_ => minimal_v (some ⟨b5, 0, none⟩) lO 2 w_ (hT.ext e_) aO (by decide)) ?_; intro v w6 w0_ e0_ e1_ r_v; have e_w6 := e0_.trans e1_; have b_v := e0_.size; clear e0_ e1_)
  obtain ⟨v, rfl, hO⟩ := r_v
  rw [kO] at hO
  obtain ⟨ao, co, rfl, hTT⟩ := own_sl hO
  rw [cO]
  have x6 := x5.trans e_w6
  replace hS := hS.ext e_w6
  replace hM := hM.ext e_w6
  clear b_v e_w6 hO hT
  obtain ⟨ad, rfl, hc⟩ := hTT.ens.at (k := 0) (x := ⟨⟨0, 0⟩, 1⟩) rfl
  have hc1 : Cells w6 (ad.add (0 * 3)) [.int .u32 0, .int .i64 0, .int .i64 1] := hc
  have hs := fun w_ (e_ : Ext w6 w_) => same_v (some ⟨b1, 0, none⟩) am lH mH 3 cm w_ (hS.ens.ext e_) aH (by decide) (hM.ens.ext e_) aM (by decide)
  rw [sH] at hs
  have h1 := fun w_ (e_ : Ext w6 w_) => lookupA_v (some ⟨b1, 0, none⟩) lH 3 167772160 w_ (hS.ens.ext e_) aH (by decide) (by decide)
  rw [k1] at h1
  have h2 := fun w_ (e_ : Ext w6 w_) => lookupA_v (some ⟨b1, 0, none⟩) lH 3 0 w_ (hS.ens.ext e_) aH (by decide) (by decide)
  rw [k2] at h2
  repeat (first | refine Vx ?_ | (apply Ops_q; (case hon => exact Va); (case hd => rfl); (case hq => exact YlA)) | refine Vr ?_ | refine Vt ?_ | refine Vf ?_ | refine Vm ?_ | refine Ve ?_ | refine Vo ?_ | refine Vz ?_)
  (apply Ops_q; (case hon => (exact Va)); (case hd => rfl); (case hq => exact Yl_call rfl (fun w_ e_ => hs w_ e_)))
  repeat (first | refine Vx ?_ | (apply Ops_q; (case hon => exact Va); (case hd => rfl); (case hq => exact YlA)) | refine Vr ?_ | refine Vt ?_ | refine Vf ?_ | refine Vm ?_ | refine Ve ?_ | refine Vo ?_ | refine Vz ?_)
  (apply Ops_q; (case hon => (exact Va)); (case hd => rfl); (case hq => exact Yl_indexS (j := 0) rfl rfl (by omega)))
  repeat (first | refine Vx ?_ | (apply Ops_q; (case hon => exact Va); (case hd => rfl); (case hq => exact YlA)) | refine Vr ?_ | refine Vt ?_ | refine Vf ?_ | refine Vm ?_ | refine Ve ?_ | refine Vo ?_ | refine Vz ?_)
  (apply Ops_q; (case hon => (exact Va)); (case hd => rfl); (case hq => exact Yl_call rfl (fun w_ e_ => h1 w_ e_)))
  repeat (first | refine Vx ?_ | (apply Ops_q; (case hon => exact Va); (case hd => rfl); (case hq => exact YlA)) | refine Vr ?_ | refine Vt ?_ | refine Vf ?_ | refine Vm ?_ | refine Ve ?_ | refine Vo ?_ | refine Vz ?_)
  (apply Ops_q; (case hon => (exact Va)); (case hd => rfl); (case hq => exact Yl_call rfl (fun w_ e_ => h2 w_ e_)))
  repeat (first | refine Vx ?_ | (apply Ops_q; (case hon => exact Va); (case hd => rfl); (case hq => exact YlA)) | refine Vr ?_ | refine Vt ?_ | refine Vf ?_ | refine Vm ?_ | refine Ve ?_ | refine Vo ?_ | refine Vz ?_)
  refine ret1 (by first | exact .inl rfl | exact .inr rfl) rfl rfl ?_
  exact Ret_mk rfl x6
end Go.Proofs.Ytkiidmbkibfbiaa

/-
  Tables (layer 7): the laws AggregateChecks, AggregateDiffers, AggregateTrims, AggregateFirst, walked.
  Conditions: the arguments are read as slices of entries.
-/
namespace Go.Proofs.Ytkiidmbkibfbiaa
open Go.RowKit

set_option maxHeartbeats 1000000 in
theorem lawChecks_v (ao : Option Addr) (L : List En) (c a : Nat) (w : World) (hS : Sl w ao L.length c L) (hLa : ∀ e ∈ L, e.p.a < 4294967296) (ha : a < 4294967296) : Calls Try.prog 3 #[.slice ao L.length c, .int .u32 a] w (Ret (.bool true) w) := by
  refine V_enter (vs := [_, _]) Try.func3 rfl Try.ntmps3 (Nat.le_of_ble_eq_true rfl) ?_
  repeat (first | refine Vx ?_ | (apply Ops_q; (case hon => exact Va); (case hd => rfl); (case hq => exact YlA)) | refine Vr ?_ | refine Vt ?_ | refine Vf ?_ | refine Vm ?_ | refine Ve ?_ | refine Vo ?_ | refine Vz ?_)
  refine V_cond rfl (fun h1 => ?_) (fun h1 => ?_)
  · repeat (first | refine Vx ?_ | (apply Ops_q; (case hon => exact Va); (case hd => rfl); (case hq => exact YlA)) | refine Vr ?_ | refine Vt ?_ | refine Vf ?_ | refine Vm ?_ | refine Ve ?_ | refine Vo ?_ | refine Vz ?_)
    (apply Ops_q; (case hon => (exact Va)); (case hd => rfl); (case hq => exact Yl_call rfl (fun w_ e_ => awake7_v w_)))
    repeat (first | refine Vx ?_ | (apply Ops_q; (case hon => exact Va); (case hd => rfl); (case hq => exact YlA)) | refine Vr ?_ | refine Vt ?_ | refine Vf ?_ | refine Vm ?_ | refine Ve ?_ | refine Vo ?_ | refine Vz ?_)
    refine ret1 (by first | exact .inl rfl | exact .inr rfl) rfl rfl ?_
    exact Ret_mk rfl (Ext.refl _)
  have hn : L.length ≤ 1000000 := by have := of_decide_eq_false h1; omega
  clear h1
  have d1 : decide (chk L = chk L) = true := decide_eq_true rfl
  have d2 : decide (lkT L a = lkT L a) = true := decide_eq_true rfl
  repeat (first | refine Vx ?_ | (apply Ops_q; (case hon => exact Va); (case hd => rfl); (case hq => exact YlA)) | refine Vr ?_ | refine Vt ?_ | refine Vf ?_ | refine Vm ?_ | refine Ve ?_ | refine Vo ?_ | refine Vz ?_)
  (apply Ops_q; (case hon => (exact Va)); (case hd => rfl); (case hq => exact Yl_call rfl (fun w_ e_ => awake7_v w_)))
  repeat (first | refine Vx ?_ | (apply Ops_q; (case hon => exact Va); (case hd => rfl); (case hq => exact YlA)) | refine Vr ?_ | refine Vt ?_ | refine Vf ?_ | refine Vm ?_ | refine Ve ?_ | refine Vo ?_ | refine Vz ?_)
  (apply Ops_q; (case hon => (exact Va)); (case hd => rfl); (case hq => exact Yl_call rfl (fun w_ e_ => check_v ao L c w_ (hS.ens.ext e_) hLa hn)))
  repeat (first | refine Vx ?_ | (apply Ops_q; (case hon => exact Va); (case hd => rfl); (case hq => exact YlA)) | refine Vr ?_ | refine Vt ?_ | refine Vf ?_ | refine Vm ?_ | refine Ve ?_ | refine Vo ?_ | refine Vz ?_)
  (apply Ops_q; (case hon => (exact Va)); (case hd => rfl); (case hq => exact Yl_call rfl (fun w_ e_ => checkR_v ao L c w_ (hS.ens.ext e_) hLa hn)))
  repeat (first | refine Vx ?_ | (apply Ops_q; (case hon => exact Va); (case hd => rfl); (case hq => exact YlA)) | refine Vr ?_ | refine Vt ?_ | refine Vf ?_ | refine Vm ?_ | refine Ve ?_ | refine Vo ?_ | refine Vz ?_)
  rw [d1]
  repeat (first | refine Vx ?_ | (apply Ops_q; (case hon => exact Va); (case hd => rfl); (case hq => exact YlA)) | refine Vr ?_ | refine Vt ?_ | refine Vf ?_ | refine Vm ?_ | refine Ve ?_ | refine Vo ?_ | refine Vz ?_)
  (apply Ops_q; (case hon => (exact Va)); (case hd => rfl); (case hq => exact Yl_call rfl (fun w_ e_ => lookupA_v ao L c a w_ (hS.ens.ext e_) hLa hn ha)))
  repeat (first | refine Vx ?_ | (apply Ops_q; (case hon => exact Va); (case hd => rfl); (case hq => exact YlA)) | refine Vr ?_ | refine Vt ?_ | refine Vf ?_ | refine Vm ?_ | refine Ve ?_ | refine Vo ?_ | refine Vz ?_)
  (apply Ops_q; (case hon => (exact Va)); (case hd => rfl); (case hq => exact Yl_call rfl (fun w_ e_ => lookupR_v ao L c a w_ (hS.ens.ext e_) hLa hn ha)))
  repeat (first | refine Vx ?_ | (apply Ops_q; (case hon => exact Va); (case hd => rfl); (case hq => exact YlA)) | refine Vr ?_ | refine Vt ?_ | refine Vf ?_ | refine Vm ?_ | refine Ve ?_ | refine Vo ?_ | refine Vz ?_)
  rw [d2]
  repeat (first | refine Vx ?_ | (apply Ops_q; (case hon => exact Va); (case hd => rfl); (case hq => exact YlA)) | refine Vr ?_ | refine Vt ?_ | refine Vf ?_ | refine Vm ?_ | refine Ve ?_ | refine Vo ?_ | refine Vz ?_)
  refine ret1 (by first | exact .inl rfl | exact .inr rfl) rfl rfl ?_
  exact Ret_mk rfl (Ext.refl _)
set_option maxHeartbeats 1000000 in
theorem lawDiffers_v (ao : Option Addr) (L : List En) (c : Nat) (bo : Option Addr) (M : List En) (d : Nat) (w : World) (hS : Sl w ao L.length c L) (hLa : ∀ e ∈ L, e.p.a < 4294967296) (hT : Sl w bo M.length d M) (hMa : ∀ e ∈ M, e.p.a < 4294967296) : Calls Try.prog 4 #[.slice ao L.length c, .slice bo M.length d] w (Ret (.bool true) w) := by
  refine V_enter (vs := [_, _]) Try.func4 rfl Try.ntmps4 (Nat.le_of_ble_eq_true rfl) ?_
  repeat (first | refine Vx ?_ | (apply Ops_q; (case hon => exact Va); (case hd => rfl); (case hq => exact YlA)) | refine Vr ?_ | refine Vt ?_ | refine Vf ?_ | refine Vm ?_ | refine Ve ?_ | refine Vo ?_ | refine Vz ?_)
  refine Ops_split rfl rfl (fun h1 => ?_) (fun h1 => ?_)
  · repeat (first | refine Vx ?_ | (apply Ops_q; (case hon => exact Va); (case hd => rfl); (case hq => exact YlA)) | refine Vr ?_ | refine Vt ?_ | refine Vf ?_ | refine Vm ?_ | refine Ve ?_ | refine Vo ?_ | refine Vz ?_)
    (apply Ops_q; (case hon => (exact Va)); (case hd => rfl); (case hq => exact Yl_call rfl (fun w_ e_ => awake7_v w_)))
    repeat (first | refine Vx ?_ | (apply Ops_q; (case hon => exact Va); (case hd => rfl); (case hq => exact YlA)) | refine Vr ?_ | refine Vt ?_ | refine Vf ?_ | refine Vm ?_ | refine Ve ?_ | refine Vo ?_ | refine Vz ?_)
    refine ret1 (by first | exact .inl rfl | exact .inr rfl) rfl rfl ?_
    exact Ret_mk rfl (Ext.refl _)
  have hn : L.length ≤ 1000000 := by have := of_decide_eq_false h1; omega
  clear h1
  repeat (first | refine Vx ?_ | (apply Ops_q; (case hon => exact Va); (case hd => rfl); (case hq => exact YlA)) | refine Vr ?_ | refine Vt ?_ | refine Vf ?_ | refine Vm ?_ | refine Ve ?_ | refine Vo ?_ | refine Vz ?_)
  refine V_cond rfl (fun h1 => ?_) (fun h1 => ?_)
  · repeat (first | refine Vx ?_ | (apply Ops_q; (case hon => exact Va); (case hd => rfl); (case hq => exact YlA)) | refine Vr ?_ | refine Vt ?_ | refine Vf ?_ | refine Vm ?_ | refine Ve ?_ | refine Vo ?_ | refine Vz ?_)
    (apply Ops_q; (case hon => (exact Va)); (case hd => rfl); (case hq => exact Yl_call rfl (fun w_ e_ => awake7_v w_)))
    repeat (first | refine Vx ?_ | (apply Ops_q; (case hon => exact Va); (case hd => rfl); (case hq => exact YlA)) | refine Vr ?_ | refine Vt ?_ | refine Vf ?_ | refine Vm ?_ | refine Ve ?_ | refine Vo ?_ | refine Vz ?_)
    refine ret1 (by first | exact .inl rfl | exact .inr rfl) rfl rfl ?_
    exact Ret_mk rfl (Ext.refl _)
  have hm : M.length ≤ 1000000 := by have := of_decide_eq_false h1; omega
  clear h1
  obtain ⟨z, b, e1, e2⟩ := dif_cases (difT L M)
  have hd1 := fun w_ (e_ : Ext w w_) => differ_v ao bo L M c d w_ (hS.ens.ext e_) hLa hn (hT.ens.ext e_) hMa hm
  have hd2 := fun w_ (e_ : Ext w w_) => differR_v ao bo L M c d w_ (hS.ens.ext e_) hLa hn hS.nil (hT.ens.ext e_) hMa hm hT.nil
  rw [e1] at hd1 hd2
  have q1 : (samT L M == samT L M) = true := beq_self_eq_true _
  have q2 : decide (z = z) = true := decide_eq_true rfl
  have q3 : (b == b) = true := beq_self_eq_true _
  repeat (first | refine Vx ?_ | (apply Ops_q; (case hon => exact Va); (case hd => rfl); (case hq => exact YlA)) | refine Vr ?_ | refine Vt ?_ | refine Vf ?_ | refine Vm ?_ | refine Ve ?_ | refine Vo ?_ | refine Vz ?_)
  (apply Ops_q; (case hon => (exact Va)); (case hd => rfl); (case hq => exact Yl_call rfl (fun w_ e_ => hd1 w_ e_)))
  repeat (first | refine Vx ?_ | (apply Ops_q; (case hon => exact Va); (case hd => rfl); (case hq => exact YlA)) | refine Vr ?_ | refine Vt ?_ | refine Vf ?_ | refine Vm ?_ | refine Ve ?_ | refine Vo ?_ | refine Vz ?_)
  (apply Ops_q; (case hon => (exact Va)); (case hd => rfl); (case hq => exact Yl_call rfl (fun w_ e_ => hd2 w_ e_)))
  repeat (first | refine Vx ?_ | (apply Ops_q; (case hon => exact Va); (case hd => rfl); (case hq => exact YlA)) | refine Vr ?_ | refine Vt ?_ | refine Vf ?_ | refine Vm ?_ | refine Ve ?_ | refine Vo ?_ | refine Vz ?_)
  (apply Ops_q; (case hon => (exact Va)); (case hd => rfl); (case hq => exact Yl_call rfl (fun w_ e_ => awake7_v w_)))
  repeat (first | refine Vx ?_ | (apply Ops_q; (case hon => exact Va); (case hd => rfl); (case hq => exact YlA)) | refine Vr ?_ | refine Vt ?_ | refine Vf ?_ | refine Vm ?_ | refine Ve ?_ | refine Vo ?_ | refine Vz ?_)
  (apply Ops_q; (case hon => (exact Va)); (case hd => rfl); (case hq => exact Yl_call rfl (fun w_ e_ => same_v ao bo L M c d w_ (hS.ens.ext e_) hLa hn (hT.ens.ext e_) hMa hm)))
  repeat (first | refine Vx ?_ | (apply Ops_q; (case hon => exact Va); (case hd => rfl); (case hq => exact YlA)) | refine Vr ?_ | refine Vt ?_ | refine Vf ?_ | refine Vm ?_ | refine Ve ?_ | refine Vo ?_ | refine Vz ?_)
  (apply Ops_q; (case hon => (exact Va)); (case hd => rfl); (case hq => exact Yl_call rfl (fun w_ e_ => sameR_v ao bo L M c d w_ (hS.ens.ext e_) hLa hn hS.nil (hT.ens.ext e_) hMa hm hT.nil)))
  repeat (first | refine Vx ?_ | (apply Ops_q; (case hon => exact Va); (case hd => rfl); (case hq => exact YlA)) | refine Vr ?_ | refine Vt ?_ | refine Vf ?_ | refine Vm ?_ | refine Ve ?_ | refine Vo ?_ | refine Vz ?_)
  rw [q1]
  repeat (first | refine Vx ?_ | (apply Ops_q; (case hon => exact Va); (case hd => rfl); (case hq => exact YlA)) | refine Vr ?_ | refine Vt ?_ | refine Vf ?_ | refine Vm ?_ | refine Ve ?_ | refine Vo ?_ | refine Vz ?_)
  rw [q2]
  repeat (first | refine Vx ?_ | (apply Ops_q; (case hon => exact Va); (case hd => rfl); (case hq => exact YlA)) | refine Vr ?_ | refine Vt ?_ | refine Vf ?_ | refine Vm ?_ | refine Ve ?_ | refine Vo ?_ | refine Vz ?_)
  rw [q3]
  repeat (first | refine Vx ?_ | (apply Ops_q; (case hon => exact Va); (case hd => rfl); (case hq => exact YlA)) | refine Vr ?_ | refine Vt ?_ | refine Vf ?_ | refine Vm ?_ | refine Ve ?_ | refine Vo ?_ | refine Vz ?_)
  refine ret1 (by first | exact .inl rfl | exact .inr rfl) rfl rfl ?_
  exact Ret_mk rfl (Ext.refl _)
set_option maxHeartbeats 1000000 in
theorem lawTrims_v (ao : Option Addr) (L : List En) (c : Nat) (w : World) (hS : Sl w ao L.length c L) (hLa : ∀ e ∈ L, e.p.a < 4294967296) : Calls Try.prog 5 #[.slice ao L.length c] w (Ret (.bool true) w) := by
  refine V_enter (vs := [_]) Try.func5 rfl Try.ntmps5 (Nat.le_of_ble_eq_true rfl) ?_
  repeat (first | refine Vx ?_ | (apply Ops_q; (case hon => exact Va); (case hd => rfl); (case hq => exact YlA)) | refine Vr ?_ | refine Vt ?_ | refine Vf ?_ | refine Vm ?_ | refine Ve ?_ | refine Vo ?_ | refine Vz ?_)
  refine V_cond rfl (fun h1 => ?_) (fun h1 => ?_)
  · repeat (first | refine Vx ?_ | (apply Ops_q; (case hon => exact Va); (case hd => rfl); (case hq => exact YlA)) | refine Vr ?_ | refine Vt ?_ | refine Vf ?_ | refine Vm ?_ | refine Ve ?_ | refine Vo ?_ | refine Vz ?_)
    (apply Ops_q; (case hon => (exact Va)); (case hd => rfl); (case hq => exact Yl_call rfl (fun w_ e_ => awake7_v w_)))
    repeat (first | refine Vx ?_ | (apply Ops_q; (case hon => exact Va); (case hd => rfl); (case hq => exact YlA)) | refine Vr ?_ | refine Vt ?_ | refine Vf ?_ | refine Vm ?_ | refine Ve ?_ | refine Vo ?_ | refine Vz ?_)
    refine ret1 (by first | exact .inl rfl | exact .inr rfl) rfl rfl ?_
    exact Ret_mk rfl (Ext.refl _)
  have hn : L.length ≤ 900 := by have := of_decide_eq_false h1; omega
  clear h1
  have hn2 : L.length ≤ 1000000 := by omega
  have hml : (trmT L).length ≤ 1000000 := by
    unfold trmT
    split
    · have h1 := rangeF_len (visL L) (fun i => decide (((visL L).getD i En.zero).v ≠ upV (visL L) i)) (visL L).length
      have h2 := visL_len L
      exact Nat.le_trans h1 (by omega)
    · exact Nat.zero_le _
  repeat (first | refine Vx ?_ | (apply Ops_q; (case hon => exact Va); (case hd => rfl); (case hq => exact YlA)) | refine Vr ?_ | refine Vt ?_ | refine Vf ?_ | refine Vm ?_ | refine Ve ?_ | refine Vo ?_ | refine Vz ?_)
  (refine Ops_callR (by exact Va) rfl rfl (fun w_ e_ => trim_v ao L c w_ (hS.ens.ext e_) hLa hn2) ?_; intro v w1 w0_ e0_ e1_ r_v; have e_w1 := e0_.trans e1_; have b_v := e0_.size; clear e0_ e1_)
  obtain ⟨v, rfl, hO⟩ := r_v
  obtain ⟨at_, ct, rfl, hT⟩ := own_sl hO
  have x1 := e_w1
  clear hO b_v e_w1
  repeat (first | refine Vx ?_ | (apply Ops_q; (case hon => exact Va); (case hd => rfl); (case hq => exact YlA)) | refine Vr ?_ | refine Vt ?_ | refine Vf ?_ | refine Vm ?_ | refine Ve ?_ | refine Vo ?_ | refine Vz ?_)
  (refine Ops_callR (by exact Va) rfl rfl (fun w_ e_ => trimR_v ao L c w_ (hS.ens.ext (x1.trans e_)) hLa hn) ?_; intro v w2 w0_ e0_ e1_ r_v; have e_w2 := e0_.trans e1_; have b_v := e0_.size; clear e0_ e1_)
  obtain ⟨v, rfl, hO⟩ := r_v
  obtain ⟨au, cu, rfl, hU⟩ := own_sl hO
  have x2 := x1.trans e_w2
  replace hT := hT.ext e_w2
  clear hO b_v e_w2
  generalize trmT L = M at *
  have q1 : decide (M = M) = true := decide_eq_true rfl
  have q2 : decide (chk L = chk L) = true := decide_eq_true rfl
  repeat (first | refine Vx ?_ | (apply Ops_q; (case hon => exact Va); (case hd => rfl); (case hq => exact YlA)) | refine Vr ?_ | refine Vt ?_ | refine Vf ?_ | refine Vm ?_ | refine Ve ?_ | refine Vo ?_ | refine Vz ?_)
  (apply Ops_q; (case hon => (exact Va)); (case hd => rfl); (case hq => exact Yl_call rfl (fun w_ e_ => awake7_v w_)))
  repeat (first | refine Vx ?_ | (apply Ops_q; (case hon => exact Va); (case hd => rfl); (case hq => exact YlA)) | refine Vr ?_ | refine Vt ?_ | refine Vf ?_ | refine Vm ?_ | refine Ve ?_ | refine Vo ?_ | refine Vz ?_)
  (apply Ops_q; (case hon => (exact Va)); (case hd => rfl); (case hq => exact Yl_call rfl (fun w_ e_ => sameEntries_v at_ au M M ct cu w_ (hT.ens.ext e_) (hU.ens.ext e_) hml)))
  rw [q1]
  repeat (first | refine Vx ?_ | (apply Ops_q; (case hon => exact Va); (case hd => rfl); (case hq => exact YlA)) | refine Vr ?_ | refine Vt ?_ | refine Vf ?_ | refine Vm ?_ | refine Ve ?_ | refine Vo ?_ | refine Vz ?_)
  rw [q2]
  repeat (first | refine Vx ?_ | (apply Ops_q; (case hon => exact Va); (case hd => rfl); (case hq => exact YlA)) | refine Vr ?_ | refine Vt ?_ | refine Vf ?_ | refine Vm ?_ | refine Ve ?_ | refine Vo ?_ | refine Vz ?_)
  refine ret1 (by first | exact .inl rfl | exact .inr rfl) rfl rfl ?_
  exact Ret_mk rfl x2
set_option maxHeartbeats 1000000 in
theorem lawFirst_v (ao : Option Addr) (L : List En) (c : Nat) (bo : Option Addr) (M : List En) (d a : Nat) (w : World) (hS : Sl w ao L.length c L) (hLa : ∀ e ∈ L, e.p.a < 4294967296) (hT : Sl w bo M.length d M) (hMa : ∀ e ∈ M, e.p.a < 4294967296) (ha : a < 4294967296) : Calls Try.prog 9 #[.slice ao L.length c, .slice bo M.length d, .int .u32 a] w (Ret (.bool true) w) := by
  refine V_enter (vs := [_, _, _]) Try.func9 rfl Try.ntmps9 (Nat.le_of_ble_eq_true rfl) ?_
  repeat (first | refine Vx ?_ | (apply Ops_q; (case hon => exact Va); (case hd => rfl); (case hq => exact YlA)) | refine Vr ?_ | refine Vt ?_ | refine Vf ?_ | refine Vm ?_ | refine Ve ?_ | refine Vo ?_ | refine Vz ?_)
  refine Ops_split rfl rfl (fun h1 => ?_) (fun h1 => ?_)
  · repeat (first | refine Vx ?_ | (apply Ops_q; (case hon => exact Va); (case hd => rfl); (case hq => exact YlA)) | refine Vr ?_ | refine Vt ?_ | refine Vf ?_ | refine Vm ?_ | refine Ve ?_ | refine Vo ?_ | refine Vz ?_)
    (apply Ops_q; (case hon => (exact Va)); (case hd => rfl); (case hq => exact Yl_call rfl (fun w_ e_ => awake7_v w_)))
    repeat (first | refine Vx ?_ | (apply Ops_q; (case hon => exact Va); (case hd => rfl); (case hq => exact YlA)) | refine Vr ?_ | refine Vt ?_ | refine Vf ?_ | refine Vm ?_ | refine Ve ?_ | refine Vo ?_ | refine Vz ?_)
    refine ret1 (by first | exact .inl rfl | exact .inr rfl) rfl rfl ?_
    exact Ret_mk rfl (Ext.refl _)
  have hn : L.length ≤ 1000000 := by have := of_decide_eq_false h1; omega
  clear h1
  repeat (first | refine Vx ?_ | (apply Ops_q; (case hon => exact Va); (case hd => rfl); (case hq => exact YlA)) | refine Vr ?_ | refine Vt ?_ | refine Vf ?_ | refine Vm ?_ | refine Ve ?_ | refine Vo ?_ | refine Vz ?_)
  refine Ops_split rfl rfl (fun h1 => ?_) (fun h1 => ?_)
  · repeat (first | refine Vx ?_ | (apply Ops_q; (case hon => exact Va); (case hd => rfl); (case hq => exact YlA)) | refine Vr ?_ | refine Vt ?_ | refine Vf ?_ | refine Vm ?_ | refine Ve ?_ | refine Vo ?_ | refine Vz ?_)
    (apply Ops_q; (case hon => (exact Va)); (case hd => rfl); (case hq => exact Yl_call rfl (fun w_ e_ => awake7_v w_)))
    repeat (first | refine Vx ?_ | (apply Ops_q; (case hon => exact Va); (case hd => rfl); (case hq => exact YlA)) | refine Vr ?_ | refine Vt ?_ | refine Vf ?_ | refine Vm ?_ | refine Ve ?_ | refine Vo ?_ | refine Vz ?_)
    refine ret1 (by first | exact .inl rfl | exact .inr rfl) rfl rfl ?_
    exact Ret_mk rfl (Ext.refl _)
  have hm : M.length ≤ 1000000 := by have := of_decide_eq_false h1; omega
  clear h1
  repeat (first | refine Vx ?_ | (apply Ops_q; (case hon => exact Va); (case hd => rfl); (case hq => exact YlA)) | refine Vr ?_ | refine Vt ?_ | refine Vf ?_ | refine Vm ?_ | refine Ve ?_ | refine Vo ?_ | refine Vz ?_)
  (apply Ops_q; (case hon => (exact Va)); (case hd => rfl); (case hq => exact Yl_call rfl (fun w_ e_ => checkR_v ao L c w_ (hS.ens.ext e_) hLa hn)))
  repeat (first | refine Vx ?_ | (apply Ops_q; (case hon => exact Va); (case hd => rfl); (case hq => exact YlA)) | refine Vr ?_ | refine Vt ?_ | refine Vf ?_ | refine Vm ?_ | refine Ve ?_ | refine Vo ?_ | refine Vz ?_)
  refine Ops_split rfl rfl (fun h1 => ?_) (fun h1 => ?_)
  · repeat (first | refine Vx ?_ | (apply Ops_q; (case hon => exact Va); (case hd => rfl); (case hq => exact YlA)) | refine Vr ?_ | refine Vt ?_ | refine Vf ?_ | refine Vm ?_ | refine Ve ?_ | refine Vo ?_ | refine Vz ?_)
    (apply Ops_q; (case hon => (exact Va)); (case hd => rfl); (case hq => exact Yl_call rfl (fun w_ e_ => awake7_v w_)))
    repeat (first | refine Vx ?_ | (apply Ops_q; (case hon => exact Va); (case hd => rfl); (case hq => exact YlA)) | refine Vr ?_ | refine Vt ?_ | refine Vf ?_ | refine Vm ?_ | refine Ve ?_ | refine Vo ?_ | refine Vz ?_)
    refine ret1 (by first | exact .inl rfl | exact .inr rfl) rfl rfl ?_
    exact Ret_mk rfl (Ext.refl _)
  have hl0 : chk L = 0 := by simpa using h1
  clear h1
  repeat (first | refine Vx ?_ | (apply Ops_q; (case hon => exact Va); (case hd => rfl); (case hq => exact YlA)) | refine Vr ?_ | refine Vt ?_ | refine Vf ?_ | refine Vm ?_ | refine Ve ?_ | refine Vo ?_ | refine Vz ?_)
  (apply Ops_q; (case hon => (exact Va)); (case hd => rfl); (case hq => exact Yl_call rfl (fun w_ e_ => checkR_v bo M d w_ (hT.ens.ext e_) hMa hm)))
  repeat (first | refine Vx ?_ | (apply Ops_q; (case hon => exact Va); (case hd => rfl); (case hq => exact YlA)) | refine Vr ?_ | refine Vt ?_ | refine Vf ?_ | refine Vm ?_ | refine Ve ?_ | refine Vo ?_ | refine Vz ?_)
  refine V_cond rfl (fun h1 => ?_) (fun h1 => ?_)
  · repeat (first | refine Vx ?_ | (apply Ops_q; (case hon => exact Va); (case hd => rfl); (case hq => exact YlA)) | refine Vr ?_ | refine Vt ?_ | refine Vf ?_ | refine Vm ?_ | refine Ve ?_ | refine Vo ?_ | refine Vz ?_)
    (apply Ops_q; (case hon => (exact Va)); (case hd => rfl); (case hq => exact Yl_call rfl (fun w_ e_ => awake7_v w_)))
    repeat (first | refine Vx ?_ | (apply Ops_q; (case hon => exact Va); (case hd => rfl); (case hq => exact YlA)) | refine Vr ?_ | refine Vt ?_ | refine Vf ?_ | refine Vm ?_ | refine Ve ?_ | refine Vo ?_ | refine Vz ?_)
    refine ret1 (by first | exact .inl rfl | exact .inr rfl) rfl rfl ?_
    exact Ret_mk rfl (Ext.refl _)
  have hm0 : chk M = 0 := by simpa using h1
  clear h1
  have tL := (chk_iff.1 hl0).2
  have tM := (chk_iff.1 hm0).2
  have hd1 := fun w_ (e_ : Ext w w_) => differ_v ao bo L M c d w_ (hS.ens.ext e_) hLa hn (hT.ens.ext e_) hMa hm
  have eL : ∀ z, lkT L z = lk L z := fun z => by rw [lkT, if_pos hl0]
  have eM : ∀ z, lkT M z = lk M z := fun z => by rw [lkT, if_pos hm0]
  have hdT : difT L M = difO L M := by rw [difT, if_pos ⟨hl0, hm0⟩]
  have hsm : samT L M = !(difO L M).isSome := by
    rw [samT_eq, if_pos hl0, if_pos hm0, hdT]
  rw [hdT] at hd1
  have hlL := fun w_ (e_ : Ext w w_) z hz => lookupR_v ao L c z w_ (hS.ens.ext e_) hLa hn hz
  have hlM := fun w_ (e_ : Ext w w_) z hz => lookupR_v bo M d z w_ (hT.ens.ext e_) hMa hm hz
  simp only [eL, eM] at hlL hlM
  have hsV := fun w_ (e_ : Ext w w_) => same_v ao bo L M c d w_ (hS.ens.ext e_) hLa hn (hT.ens.ext e_) hMa hm
  rw [hsm] at hsV
  cases ho : difO L M with
  | none =>
    have hall := (dif_none tL tM hLa hMa).1 ho a ha
    rw [ho] at hd1 hsV
    have q1 : (!decide (lk L a = lk M a)) = false := by rw [decide_eq_true hall]; rfl
    unfold difV at hd1
    repeat (first | refine Vx ?_ | (apply Ops_q; (case hon => exact Va); (case hd => rfl); (case hq => exact YlA)) | refine Vr ?_ | refine Vt ?_ | refine Vf ?_ | refine Vm ?_ | refine Ve ?_ | refine Vo ?_ | refine Vz ?_)
    (apply Ops_q; (case hon => (exact Va)); (case hd => rfl); (case hq => exact Yl_call rfl (fun w_ e_ => hd1 w_ e_)))
    repeat (first | refine Vx ?_ | (apply Ops_q; (case hon => exact Va); (case hd => rfl); (case hq => exact YlA)) | refine Vr ?_ | refine Vt ?_ | refine Vf ?_ | refine Vm ?_ | refine Ve ?_ | refine Vo ?_ | refine Vz ?_)
    (apply Ops_q; (case hon => (exact Va)); (case hd => rfl); (case hq => exact Yl_call rfl (fun w_ e_ => hlL w_ e_ a ha)))
    repeat (first | refine Vx ?_ | (apply Ops_q; (case hon => exact Va); (case hd => rfl); (case hq => exact YlA)) | refine Vr ?_ | refine Vt ?_ | refine Vf ?_ | refine Vm ?_ | refine Ve ?_ | refine Vo ?_ | refine Vz ?_)
    (apply Ops_q; (case hon => (exact Va)); (case hd => rfl); (case hq => exact Yl_call rfl (fun w_ e_ => hlM w_ e_ a ha)))
    repeat (first | refine Vx ?_ | (apply Ops_q; (case hon => exact Va); (case hd => rfl); (case hq => exact YlA)) | refine Vr ?_ | refine Vt ?_ | refine Vf ?_ | refine Vm ?_ | refine Ve ?_ | refine Vo ?_ | refine Vz ?_)
    rw [q1]
    repeat (first | refine Vx ?_ | (apply Ops_q; (case hon => exact Va); (case hd => rfl); (case hq => exact YlA)) | refine Vr ?_ | refine Vt ?_ | refine Vf ?_ | refine Vm ?_ | refine Ve ?_ | refine Vo ?_ | refine Vz ?_)
    (apply Ops_q; (case hon => (exact Va)); (case hd => rfl); (case hq => exact Yl_call rfl (fun w_ e_ => awake7_v w_)))
    repeat (first | refine Vx ?_ | (apply Ops_q; (case hon => exact Va); (case hd => rfl); (case hq => exact YlA)) | refine Vr ?_ | refine Vt ?_ | refine Vf ?_ | refine Vm ?_ | refine Ve ?_ | refine Vo ?_ | refine Vz ?_)
    (apply Ops_q; (case hon => (exact Va)); (case hd => rfl); (case hq => exact Yl_call rfl (fun w_ e_ => hsV w_ e_)))
    repeat (first | refine Vx ?_ | (apply Ops_q; (case hon => exact Va); (case hd => rfl); (case hq => exact YlA)) | refine Vr ?_ | refine Vt ?_ | refine Vf ?_ | refine Vm ?_ | refine Ve ?_ | refine Vo ?_ | refine Vz ?_)
    refine ret1 (by first | exact .inl rfl | exact .inr rfl) rfl rfl ?_
    exact Ret_mk rfl (Ext.refl _)
  | some n =>
    obtain ⟨h1, h2, h3, h4⟩ := dif_some tL tM hLa hMa ho
    obtain ⟨z, rfl⟩ : ∃ z : Nat, n = (z : Int) := ⟨n.toNat, by omega⟩
    have hz : z < 4294967296 := by omega
    have h3' : lk L z ≠ lk M z := h3
    have h4' : a < z → lk L a = lk M a := fun h => h4 a (by omega)
    clear h1 h2 h3 h4
    rw [ho] at hd1 hsV
    unfold difV at hd1
    have q1 : decide (lk L z = lk M z) = false := decide_eq_false h3'
    repeat (first | refine Vx ?_ | (apply Ops_q; (case hon => exact Va); (case hd => rfl); (case hq => exact YlA)) | refine Vr ?_ | refine Vt ?_ | refine Vf ?_ | refine Vm ?_ | refine Ve ?_ | refine Vo ?_ | refine Vz ?_)
    (apply Ops_q; (case hon => (exact Va)); (case hd => rfl); (case hq => exact Yl_call rfl (fun w_ e_ => hd1 w_ e_)))
    repeat (first | refine Vx ?_ | (apply Ops_q; (case hon => exact Va); (case hd => rfl); (case hq => exact YlA)) | refine Vr ?_ | refine Vt ?_ | refine Vf ?_ | refine Vm ?_ | refine Ve ?_ | refine Vo ?_ | refine Vz ?_)
    (apply Ops_q; (case hon => (exact Va)); (case hd => rfl); (case hq => exact Yl_call rfl (fun w_ e_ => hlL w_ e_ z hz)))
    repeat (first | refine Vx ?_ | (apply Ops_q; (case hon => exact Va); (case hd => rfl); (case hq => exact YlA)) | refine Vr ?_ | refine Vt ?_ | refine Vf ?_ | refine Vm ?_ | refine Ve ?_ | refine Vo ?_ | refine Vz ?_)
    (apply Ops_q; (case hon => (exact Va)); (case hd => rfl); (case hq => exact Yl_call rfl (fun w_ e_ => hlM w_ e_ z hz)))
    repeat (first | refine Vx ?_ | (apply Ops_q; (case hon => exact Va); (case hd => rfl); (case hq => exact YlA)) | refine Vr ?_ | refine Vt ?_ | refine Vf ?_ | refine Vm ?_ | refine Ve ?_ | refine Vo ?_ | refine Vz ?_)
    rw [q1]
    repeat (first | refine Vx ?_ | (apply Ops_q; (case hon => exact Va); (case hd => rfl); (case hq => exact YlA)) | refine Vr ?_ | refine Vt ?_ | refine Vf ?_ | refine Vm ?_ | refine Ve ?_ | refine Vo ?_ | refine Vz ?_)
    refine Ops_meet [(59, .bool false), (0, .slice ao L.length c), (1, .slice bo M.length d), (8, .bool true)] ?_ ?_
    · refine Ops_split rfl rfl (fun h5 => ?_) (fun h5 => ?_)
      · have h6 := h4' (by have := of_decide_eq_true h5; omega)
        have q2 : (!decide (lk L a = lk M a)) = false := by rw [decide_eq_true h6]; rfl
        repeat (first | refine Vx ?_ | (apply Ops_q; (case hon => exact Va); (case hd => rfl); (case hq => exact YlA)) | refine Vr ?_ | refine Vt ?_ | refine Vf ?_ | refine Vm ?_ | refine Ve ?_ | refine Vo ?_ | refine Vz ?_)
        (apply Ops_q; (case hon => (exact Va)); (case hd => rfl); (case hq => exact Yl_call rfl (fun w_ e_ => hlL w_ e_ a ha)))
        repeat (first | refine Vx ?_ | (apply Ops_q; (case hon => exact Va); (case hd => rfl); (case hq => exact YlA)) | refine Vr ?_ | refine Vt ?_ | refine Vf ?_ | refine Vm ?_ | refine Ve ?_ | refine Vo ?_ | refine Vz ?_)
        (apply Ops_q; (case hon => (exact Va)); (case hd => rfl); (case hq => exact Yl_call rfl (fun w_ e_ => hlM w_ e_ a ha)))
        repeat (first | refine Vx ?_ | (apply Ops_q; (case hon => exact Va); (case hd => rfl); (case hq => exact YlA)) | refine Vr ?_ | refine Vt ?_ | refine Vf ?_ | refine Vm ?_ | refine Ve ?_ | refine Vo ?_ | refine Vz ?_)
        rw [q2]
        exact ⟨(by repeat (first | exact trivial | refine ⟨rfl, ?_⟩)), rfl⟩
      · repeat (first | refine Vx ?_ | (apply Ops_q; (case hon => exact Va); (case hd => rfl); (case hq => exact YlA)) | refine Vr ?_ | refine Vt ?_ | refine Vf ?_ | refine Vm ?_ | refine Ve ?_ | refine Vo ?_ | refine Vz ?_)
        exact ⟨(by repeat (first | exact trivial | refine ⟨rfl, ?_⟩)), rfl⟩
    repeat (first | refine Vx ?_ | (apply Ops_q; (case hon => exact Va); (case hd => rfl); (case hq => exact YlA)) | refine Vr ?_ | refine Vt ?_ | refine Vf ?_ | refine Vm ?_ | refine Ve ?_ | refine Vo ?_ | refine Vz ?_)
    (apply Ops_q; (case hon => (exact Va)); (case hd => rfl); (case hq => exact Yl_call rfl (fun w_ e_ => awake7_v w_)))
    repeat (first | refine Vx ?_ | (apply Ops_q; (case hon => exact Va); (case hd => rfl); (case hq => exact YlA)) | refine Vr ?_ | refine Vt ?_ | refine Vf ?_ | refine Vm ?_ | refine Ve ?_ | refine Vo ?_ | refine Vz ?_)
    (apply Ops_q; (case hon => (exact Va)); (case hd => rfl); (case hq => exact Yl_call rfl (fun w_ e_ => hsV w_ e_)))
    repeat (first | refine Vx ?_ | (apply Ops_q; (case hon => exact Va); (case hd => rfl); (case hq => exact YlA)) | refine Vr ?_ | refine Vt ?_ | refine Vf ?_ | refine Vm ?_ | refine Ve ?_ | refine Vo ?_ | refine Vz ?_)
    refine ret1 (by first | exact .inl rfl | exact .inr rfl) rfl rfl ?_
    exact Ret_mk rfl (Ext.refl _)
end Go.Proofs.Ytkiidmbkibfbiaa

/-
  What lies behind an argument that is a slice: a list, each of whose elements is read by its type.
  No conditions beyond those that each statement names.
-/
namespace Go.Proofs.Ytkiidmbkibfbiaa
open Go.ChangeShapes Go.WideShapes Go.ChangeAt Go.RowKit Go.Joins Go.Deep

section
variable {H : Type} {enc : TypeId × Value → H} {P : Program} {w : World} {base : Nat} {spare : Nat → Bool} {held : Bool}
/-- The cells read as a datum of the type. -/
def Reads (enc : TypeId × Value → H) (P : Program) (w : World) (base : Nat) (spare : Nat → Bool) (held : Bool) (t : TypeId) (cs : List Value) : Prop := ∃ n x, DataW.trod enc P w base spare held n t cs = some x
theorem reads_of {t : TypeId} {v : Value} {d : DataW H} {p : List MemPlace} (h : DataW.Trod enc P w base spare held t v d p) : Reads enc P w base spare held t v.cells.toList := by
  obtain ⟨n, hf⟩ := h
  exact ⟨n, _, hf⟩
theorem reads_int {t : TypeId} {k : IntKind} {cs : List Value} (ht : P.underlying t = some (.int k)) (h : Reads enc P w base spare held t cs) : ∃ n, cs = [.int k n] ∧ (Lit.int k n).wf = true := by
  obtain ⟨n, x, h⟩ := h
  obtain ⟨n, h1, _, h2⟩ := DataW.trod_int ht h
  exact ⟨n, h1, h2⟩
theorem reads_bool {t : TypeId} {cs : List Value} (ht : P.underlying t = some .bool) (h : Reads enc P w base spare held t cs) : ∃ b, cs = [.bool b] := by
  obtain ⟨n, x, h⟩ := h
  obtain ⟨b, h1, _⟩ := DataW.trod_bool ht h
  exact ⟨b, h1⟩
theorem reads_slice {t e : TypeId} {cs : List Value} (ht : P.underlying t = some (.slice e)) (h : Reads enc P w base spare held t cs) :
    ∃ (ao : Option Addr) (len cap : Nat) (D : Nat → List Value), cs = [.slice ao len cap] ∧ len ≤ cap ∧ cap ≤ maxLen ∧ (ao = none → len = 0) ∧
      ∀ i, i < len → ∃ ad, ao = some ad ∧ (D i).length = P.cellsOf e ∧ Cells w (ad.add (i * P.cellsOf e)) (D i) ∧ Reads enc P w base spare held e (D i) := by
  obtain ⟨n, x, h⟩ := h
  rcases open_slice ht h with ⟨rfl, _⟩ | ⟨a, len, cap, m, n, D, Pl, rfl, hb, hl, hm, hmm, _, hx⟩
  · exact ⟨none, 0, 0, fun _ => [], rfl, Nat.le_refl _, Nat.zero_le _, fun _ => rfl, fun i h => by omega⟩
  · have hlm : len ≤ m := by rw [hmm]; split <;> omega
    have each : ∀ i, i < len → ∃ q : List Value, q.length = P.cellsOf e ∧ Cells w (a.add (i * P.cellsOf e)) q ∧ Reads enc P w base spare held e q := by
      intro i hi
      obtain ⟨cs', h1, h2⟩ := hx i (by omega)
      obtain ⟨_, hlen, hcell⟩ := World.cells?_some h1
      refine ⟨cs', hlen, fun j v hj => ?_, n, _, h2⟩
      rw [hcell j (by rw [← hlen]; exact (List.getElem?_eq_some_iff.1 hj).1)]
      exact hj
    obtain ⟨q, hq⟩ := choose_lt each
    exact ⟨some a, len, cap, q, rfl, hl, hm, (fun h => by cases h), fun i hi => ⟨a, rfl, (hq i hi).1, (hq i hi).2.1, (hq i hi).2.2⟩⟩
/-- A slice of elements each of which is read by 'dec'. -/
theorem reads_list {t e : TypeId} {cs : List Value} {α : Type} {n0 : Nat} {φ : α → Prop} (en : α → List Value) (ht : P.underlying t = some (.slice e)) (hC : P.cellsOf e = n0) (h : Reads enc P w base spare held t cs)
    (dec : ∀ cs, Reads enc P w base spare held e cs → cs.length = n0 → ∃ a : α, cs = en a ∧ φ a) :
    ∃ (ao : Option Addr) (L : List α) (c : Nat), cs = [.slice ao L.length c] ∧ Arr w n0 ao (L.map en) ∧ L.length ≤ c ∧ c ≤ maxLen ∧ ∀ x ∈ L, φ x := by
  obtain ⟨ao, len, cap, D, rfl, hl, hm, hn, hD⟩ := reads_slice ht h
  have each : ∀ i, i < len → ∃ a : α, D i = en a ∧ φ a := fun i hi => by
    obtain ⟨ad, _, h2, _, h4⟩ := hD i hi
    exact dec (D i) h4 (h2.trans hC)
  have hlist : ∀ k, k ≤ len → ∃ L : List α, L.length = k ∧ (∀ x ∈ L, φ x) ∧ ∀ i x, L[i]? = some x → D i = en x := by
    intro k
    induction k with
    | zero => exact fun _ => ⟨[], rfl, by simp, fun i x h => by simp at h⟩
    | succ k ih =>
      intro hk
      obtain ⟨L, h1, h2, h3⟩ := ih (by omega)
      obtain ⟨a, ha, hφ⟩ := each k (by omega)
      refine ⟨L ++ [a], by simp [h1], fun x hx => ?_, fun i x hi => ?_⟩
      · rcases List.mem_append.1 hx with hx | hx
        · exact h2 x hx
        · obtain rfl := List.mem_singleton.1 hx; exact hφ
      · rw [List.getElem?_append] at hi
        split at hi
        · exact h3 i x hi
        · rename_i hge
          have : i = k := by
            have := (List.getElem?_eq_some_iff.1 hi).1
            simp at this; omega
          subst this
          rw [h1, Nat.sub_self] at hi
          cases hi
          exact ha
  obtain ⟨L, h1, h2, h3⟩ := hlist len (Nat.le_refl _)
  subst h1
  refine ⟨ao, L, cap, rfl, fun k x hk => ?_, hl, hm, h2⟩
  rw [List.getElem?_map] at hk
  obtain ⟨a, ha, rfl⟩ := Option.map_eq_some_iff.1 hk
  obtain ⟨ad, e1, _, e3, _⟩ := hD k (List.getElem?_eq_some_iff.1 ha).1
  rw [hC, h3 k a ha] at e3
  exact ⟨ad, e1, e3⟩
/-- A struct's fields, each of which reads by its own type. -/
theorem reads_struct {t : TypeId} {fs : Array Field} {cs : List Value} (ht : P.underlying t = some (.struct fs)) (h : Reads enc P w base spare held t cs) :
    cs.length = P.cellsOf t ∧ ∀ (i : Nat) (f : Field), fs[i]? = some f → Reads enc P w base spare held f.type ((cs.drop f.offset).take (P.cellsOf f.type)) := by
  obtain ⟨n, x, h⟩ := h
  obtain ⟨xs, m, _, _, h1, h2, h3⟩ := DataW.trod_struct ht h
  refine ⟨h1, fun i f hf => ⟨m, ?_⟩⟩
  have := h3 i f hf
  have hi : i < xs.length := by rw [h2]; exact (Array.getElem?_eq_some_iff.1 hf).1
  rw [List.getElem?_eq_getElem hi] at this
  exact ⟨_, this⟩
/-- A struct of fields of one cell each. -/
theorem reads_flat {t : TypeId} {fs : Array Field} {cs : List Value} (ht : P.underlying t = some (.struct fs)) (hone : oneCellFields P fs = true) (hC : P.cellsOf t = fs.size) (h : Reads enc P w base spare held t cs) :
    cs.length = fs.size ∧ ∀ (i : Nat) (f : Field) (v : Value), fs[i]? = some f → cs[i]? = some v → Reads enc P w base spare held f.type [v] := by
  obtain ⟨h1, h2⟩ := reads_struct ht h
  refine ⟨h1.trans hC, fun i f v hf hv => ?_⟩
  obtain ⟨ho, hk⟩ := hone_of hone i f hf
  have := h2 i f hf
  rw [ho, hk] at this
  have hi := List.getElem?_eq_some_iff.1 hv
  obtain ⟨hi, e⟩ := hi
  rw [List.drop_eq_getElem_cons hi, e] at this
  exact this
/-- An argument that is a slice. -/
theorem open_list {t e : TypeId} {v : Value} {d : DataW H} {p : List MemPlace} {b0 : Nat} {α : Type} {n0 : Nat} {φ : α → Prop} (en : α → List Value) (ht : P.underlying t = some (.slice e)) (hC : P.cellsOf e = n0) (hv : Value.okWide P w .any b0 t v)
    (h : DataW.Trod enc P w base spare held t v d p) (dec : ∀ cs, Reads enc P w base spare held e cs → cs.length = n0 → ∃ a : α, cs = en a ∧ φ a) :
    ∃ (ao : Option Addr) (L : List α) (c : Nat), v = .slice ao L.length c ∧ Arr w n0 ao (L.map en) ∧ L.length ≤ c ∧ c ≤ maxLen ∧ ∀ x ∈ L, φ x := by
  obtain ⟨ao, n, c, rfl⟩ := okWide_slice ht hv
  obtain ⟨ao', L, c', h1, h2⟩ := reads_list en ht hC (reads_of h) dec
  have : (Value.slice ao n c).cells.toList = [.slice ao n c] := rfl
  rw [this] at h1
  simp only [List.cons.injEq, Value.slice.injEq, and_true] at h1
  obtain ⟨rfl, rfl, rfl⟩ := h1
  exact ⟨ao, L, c, rfl, h2⟩
end
end Go.Proofs.Ytkiidmbkibfbiaa

/-
  Entries: the arguments, read off what the rows say.
  No conditions beyond those that each statement names.
-/
namespace Go.Proofs.Ytkiidmbkibfbiaa
open Go.ChangeShapes Go.WideShapes Go.ChangeAt Go.RowKit Go.Joins Go.Deep

theorem own : ownKnob Try.prog.godebug = none := by kernel_rfl
theorem uPrefix : ∃ fs, Try.prog.underlying 38 = some (.struct fs) ∧ fs.map (fun f => (f.type, f.offset)) = #[(24, 0), (3, 1)] := ⟨_, Try.underlying38, by kernel_rfl⟩
theorem uEntry : ∃ fs, Try.prog.underlying 40 = some (.struct fs) ∧ fs.map (fun f => (f.type, f.offset)) = #[(38, 0), (3, 2)] := ⟨_, Try.underlying40, by kernel_rfl⟩
theorem two_fields {fs : Array Field} {t0 t1 : TypeId} {o0 o1 : Nat} (h : fs.map (fun f => (f.type, f.offset)) = #[(t0, o0), (t1, o1)]) : ∃ f0 f1, fs[0]? = some f0 ∧ fs[1]? = some f1 ∧ f0.type = t0 ∧ f0.offset = o0 ∧ f1.type = t1 ∧ f1.offset = o1 := by
  have hs : fs.size = 2 := by have := congrArg Array.size h; simpa using this
  have h0 : fs[0]? = some (fs[0]'(by omega)) := Array.getElem?_eq_getElem (by omega)
  have h1 : fs[1]? = some (fs[1]'(by omega)) := Array.getElem?_eq_getElem (by omega)
  have e0 : (fs.map (fun f => (f.type, f.offset)))[0]? = some (t0, o0) := by rw [h]; rfl
  have e1 : (fs.map (fun f => (f.type, f.offset)))[1]? = some (t1, o1) := by rw [h]; rfl
  rw [Array.getElem?_map, h0] at e0
  rw [Array.getElem?_map, h1] at e1
  simp only [Option.map_some, Option.some.injEq, Prod.mk.injEq] at e0 e1
  exact ⟨_, _, h0, h1, e0.1, e0.2, e1.1, e1.2⟩
section
variable {H : Type} {enc : TypeId × Value → H} {w : World} {base : Nat} {spare : Nat → Bool} {held : Bool}
theorem addr_of {cs : List Value} (h : Reads enc Try.prog w base spare held 24 cs) : ∃ a : Nat, cs = [.int .u32 a] ∧ a < 4294967296 := by
  obtain ⟨n, e, hw⟩ := reads_int Try.underlying24 h
  have hb := bounds_u32 hw
  exact ⟨n.toNat, by rw [e, Int.toNat_of_nonneg hb.1], by omega⟩
set_option maxRecDepth 100000 in
theorem pf_of {cs : List Value} (h : Reads enc Try.prog w base spare held 38 cs) : ∃ p : Pf, cs = p.cells ∧ p.a < 4294967296 ∧ (Lit.int .i64 p.n).wf = true := by
  obtain ⟨fs, hu, hm⟩ := uPrefix
  obtain ⟨f0, f1, g0, g1, t0, o0, t1, o1⟩ := two_fields hm
  obtain ⟨hl, hf⟩ := reads_struct hu h
  have hC : Try.prog.cellsOf 38 = 2 := by kernel_rfl
  have c0 : Try.prog.cellsOf 24 = 1 := by kernel_rfl
  have c1 : Try.prog.cellsOf 3 = 1 := by kernel_rfl
  have h0 := hf 0 f0 g0
  have h1 := hf 1 f1 g1
  rw [t0, o0, c0] at h0
  rw [t1, o1, c1] at h1
  rw [hC] at hl
  match cs, hl with
  | [x, y], _ =>
    obtain ⟨a, e0, ha⟩ := addr_of h0
    obtain ⟨n, e1, hn⟩ := reads_int Try.underlying3 h1
    simp only [List.drop_zero, List.take_succ_cons, List.take_zero, List.drop_succ_cons, List.cons.injEq, and_true] at e0 e1
    subst e0; subst e1
    exact ⟨⟨a, n⟩, rfl, ha, hn⟩
set_option maxRecDepth 100000 in
theorem en_of (cs : List Value) (h : Reads enc Try.prog w base spare held 40 cs) (hl : cs.length = 3) : ∃ e : En, cs = e.cells ∧ (e.p.a < 4294967296 ∧ (Lit.int .i64 e.p.n).wf = true ∧ (Lit.int .i64 e.v).wf = true) := by
  obtain ⟨fs, hu, hm⟩ := uEntry
  obtain ⟨f0, f1, g0, g1, t0, o0, t1, o1⟩ := two_fields hm
  obtain ⟨_, hf⟩ := reads_struct hu h
  have c0 : Try.prog.cellsOf 38 = 2 := by kernel_rfl
  have c1 : Try.prog.cellsOf 3 = 1 := by kernel_rfl
  have h0 := hf 0 f0 g0
  have h1 := hf 1 f1 g1
  rw [t0, o0, c0] at h0
  rw [t1, o1, c1] at h1
  match cs, hl with
  | [x, y, z], _ =>
    obtain ⟨p, e0, ha, hn⟩ := pf_of h0
    obtain ⟨v, e1, hv⟩ := reads_int Try.underlying3 h1
    simp only [List.drop_zero, List.take_succ_cons, List.take_zero, List.drop_succ_cons, List.cons.injEq, and_true, Pf.cells] at e0 e1
    obtain ⟨rfl, rfl⟩ := e0
    subst e1
    exact ⟨⟨p, v⟩, rfl, ha, hn, hv⟩
set_option maxRecDepth 100000 in
theorem open_ens {v : Value} {d : DataW H} {p : List MemPlace} {b0 : Nat} (hv : Value.okWide Try.prog w .any b0 22 v) (h : DataW.Trod enc Try.prog w base spare held 22 v d p) :
    ∃ ao L c, v = .slice ao L.length c ∧ Ens w ao L ∧ ∀ e ∈ L, e.p.a < 4294967296 := by
  obtain ⟨ao, L, c, h1, h2, _, _, h3⟩ := open_list (φ := fun e : En => e.p.a < 4294967296 ∧ (Lit.int .i64 e.p.n).wf = true ∧ (Lit.int .i64 e.v).wf = true) En.cells Try.underlying22 (by kernel_rfl) hv h en_of
  exact ⟨ao, L, c, h1, h2, fun e he => (h3 e he).1⟩
set_option maxRecDepth 100000 in
theorem open_addr {v : Value} {d : DataW H} {p : List MemPlace} {b0 : Nat} (hv : Value.okWide Try.prog w .any b0 24 v) (h : DataW.Trod enc Try.prog w base spare held 24 v d p) : ∃ a : Nat, v = .int .u32 a ∧ a < 4294967296 := by
  obtain ⟨n, rfl, _, _, hw⟩ := open_int Try.underlying24 hv h
  have hb := bounds_u32 hw
  exact ⟨n.toNat, by rw [Int.toNat_of_nonneg hb.1], by omega⟩
set_option maxRecDepth 100000 in
theorem open_pf {v : Value} {d : DataW H} {p : List MemPlace} {b0 : Nat} (hv : Value.okWide Try.prog w .any b0 38 v) (h : DataW.Trod enc Try.prog w base spare held 38 v d p) : ∃ p : Pf, v = p.val ∧ p.a < 4294967296 := by
  obtain ⟨cs, rfl, _⟩ := okWide_struct Try.underlying38 hv
  obtain ⟨q, h1, h2, _⟩ := pf_of (reads_of h)
  refine ⟨q, ?_, h2⟩
  have : cs.toList = q.cells := h1
  have h4 : cs = q.cells.toArray := by rw [← this, Array.toArray_toList]
  rw [h4]; rfl
end
end Go.Proofs.Ytkiidmbkibfbiaa

/-
  Arguments that are slices of entries, read as lists.
  No conditions.
-/
namespace Go.Proofs.Ytkiidmbkibfbiaa
open Go.ChangeShapes Go.WideShapes Go.ChangeAt Go.RowKit Go.Joins Go.Deep

section
variable {H : Type} {enc : TypeId × Value → H} {w : World} {base : Nat} {spare : Nat → Bool} {held : Bool}
set_option maxRecDepth 100000 in
theorem open_sl {v : Value} {d : DataW H} {p : List MemPlace} {b0 : Nat} (hv : Value.okWide Try.prog w .any b0 22 v) (h : DataW.Trod enc Try.prog w base spare held 22 v d p) :
    ∃ ao L c, v = .slice ao L.length c ∧ Sl w ao L.length c L ∧ ∀ e ∈ L, e.p.a < 4294967296 := by
  obtain ⟨ao, L, c, rfl, h2, h3, _, h4⟩ := open_list (φ := fun e : En => e.p.a < 4294967296 ∧ (Lit.int .i64 e.p.n).wf = true ∧ (Lit.int .i64 e.v).wf = true) En.cells Try.underlying22 (by kernel_rfl) hv h en_of
  refine ⟨ao, L, c, rfl, ⟨rfl, h2, h3, fun e => ?_⟩, fun e he => (h4 e he).1⟩
  subst e
  obtain ⟨n, x, hx⟩ := reads_of h
  rcases open_slice Try.underlying22 hx with ⟨h5, _⟩ | ⟨a, len, cap, m, n, D, Pl, h5, _⟩
  · have h6 : (Value.slice none L.length c).cells.toList = [.slice none L.length c] := rfl
    rw [h6] at h5
    simp only [List.cons.injEq, Value.slice.injEq, and_true] at h5
    exact h5.2.2
  · have h6 : (Value.slice none L.length c).cells.toList = [.slice none L.length c] := rfl
    rw [h6] at h5
    simp at h5
end
end Go.Proofs.Ytkiidmbkibfbiaa

/-
  Part 5 of the texts that the proof of this claim leans on: rules of a walk, contracts of functions, plain facts. Each piece says below what it proves.
  No conditions beyond those that each lemma states.
-/
import Derived.Test.YtjpnaofoeeegeaaR4
import Derived.Laws.MakeOwn

/-
  Tables (layer 7), in plain lists: what Check demands; lookups and the trie's lookups; the addresses at which lookups may change.
  Conditions: addresses are below 2^32.
-/
namespace Go.Proofs.Ytjpnaofoeeegeaa
open Go.RowKit

theorem cmp_ge {p q : Pf} : 0 ≤ cmpP p q ↔ ¬pLt p q := by
  unfold cmpP
  split
  · rename_i h; exact ⟨fun h2 => absurd h2 (by decide), fun h2 => absurd h h2⟩
  · rename_i h
    split
    · exact ⟨fun _ => h, fun _ => by decide⟩
    · exact ⟨fun _ => h, fun _ => by decide⟩
/-- What a table is. -/
structure Tb (L : List En) : Prop where
  ok : ∀ e ∈ L, e.p.valid = true ∧ -1 ≤ e.v
  srt : Srt L
theorem chkF_iff : ∀ (L : List En) (pr : Option Pf), chkF pr L = 0 ↔ (∀ e ∈ L, e.p.valid = true ∧ -1 ≤ e.v) ∧ (∀ q, pr = some q → ∀ e ∈ L, pLt q e.p) ∧ Srt L
  | [], pr => by simp [chkF]
  | x :: l, pr => by
    have he : chkF pr (x :: l) = if x.p.valid = false then 1 else if x.v < -1 then 5 else if (match pr with | none => false | some q => decide (0 ≤ cmpP q x.p)) = true then 16 else chkF (some x.p) l := by cases pr <;> rfl
    rw [he]
    clear he
    by_cases hv : x.p.valid = true
    · rw [if_neg (by rw [hv]; decide)]
      by_cases hx : x.v < -1
      · rw [if_pos hx]
        exact ⟨fun h => absurd h (by decide), fun h => absurd (h.1 x (List.mem_cons_self ..)).2 (by omega)⟩
      · rw [if_neg hx]
        by_cases ho : (match pr with | none => false | some q => decide (0 ≤ cmpP q x.p)) = true
        · rw [if_pos ho]
          refine ⟨fun h => absurd h (by decide), fun h => ?_⟩
          cases pr with
          | none => cases ho
          | some q => exact absurd (h.2.1 q rfl x (List.mem_cons_self ..)) (cmp_ge.1 (of_decide_eq_true ho))
        · rw [if_neg ho, chkF_iff l (some x.p)]
          constructor
          · rintro ⟨h1, h2, h3⟩
            refine ⟨fun e he => ?_, fun q hq e he => ?_, List.pairwise_cons.2 ⟨h2 x.p rfl, h3⟩⟩
            · rcases List.mem_cons.1 he with rfl | he
              · exact ⟨hv, by omega⟩
              · exact h1 e he
            · subst hq
              have hqx : pLt q x.p := Classical.byContradiction fun h => ho (decide_eq_true (cmp_ge.2 h))
              rcases List.mem_cons.1 he with rfl | he
              · exact hqx
              · exact pLt_trans hqx (h2 x.p rfl e he)
          · rintro ⟨h1, h2, h3⟩
            obtain ⟨h4, h5⟩ := List.pairwise_cons.1 h3
            exact ⟨fun e he => h1 e (List.mem_cons_of_mem _ he), fun q hq e he => by cases hq; exact h4 e he, h5⟩
    · rw [if_pos (by simpa using hv)]
      exact ⟨fun h => absurd h (by decide), fun h => absurd (h.1 x (List.mem_cons_self ..)).1 hv⟩
theorem chk_iff {L : List En} : chk L = 0 ↔ L.length ≤ 2000 ∧ Tb L := by
  unfold chk
  split
  · exact ⟨fun h => absurd h (by decide), fun h => absurd h.1 (by omega)⟩
  · rw [chkF_iff]
    exact ⟨fun h => ⟨by omega, h.1, h.2.2⟩, fun h => ⟨h.2.ok, (fun q hq => nomatch hq), h.2.srt⟩⟩
theorem Tb.allOk {L : List En} (h : Tb L) : allOk L = true := List.all_eq_true.2 fun e he => (h.ok e he).1
theorem Tb.sub {L M : List En} (h : Tb L) (hs : List.Sublist M L) : Tb M := ⟨fun e he => h.ok e (hs.subset he), h.srt.sublist hs⟩
/-! ### Which addresses a prefix has -/
theorem has_iff {p : Pf} {a : Nat} (hv : p.valid = true) : p.has a = true ↔ p.a ≤ a ∧ a ≤ p.last := by
  obtain ⟨v1, v2, v3⟩ := Pf.valid_iff.1 hv
  rw [Pf.has, hv, Bool.true_and, decide_eq_true_eq, Pf.last, if_pos hv]
  have hp : 0 < 2 ^ (32 - p.n.toNat) := Nat.two_pow_pos _
  unfold top at v3 ⊢
  generalize 2 ^ (32 - p.n.toNat) = g at v3 hp ⊢
  constructor
  · intro h
    have := Nat.div_mul_le_self a g
    have h2 := Nat.lt_div_mul_add (a := a) hp
    omega
  · rintro ⟨h1, h2⟩
    have h3 : p.a / g ≤ a / g := Nat.div_le_div_right h1
    have h4 : a / g ≤ p.a / g := by
      refine Nat.le_of_lt_succ ((Nat.div_lt_iff_lt_mul hp).2 ?_)
      rw [Nat.succ_mul, v3]; omega
    rw [show a / g = p.a / g by omega, v3]
theorem has_same {p q : Pf} {a : Nat} (hp : p.has a = true) (hq : q.has a = true) (hn : p.n = q.n) : p = q := by
  rw [Pf.has, Bool.and_eq_true, decide_eq_true_eq] at hp hq
  exact pf_eq (by rw [← hp.2, ← hq.2, hn]) hn

/-! ### The trie's lookup -/
theorem best_snoc (a : Nat) (L : List En) (x : En) : bestL a (L ++ [x]) = bestS a (bestL a L) x := by unfold bestL; rw [List.foldl_append]; rfl
theorem best_in {a : Nat} {L : List En} {e : En} : bestL a L = some e → e ∈ L ∧ e.p.has a = true := by
  refine en_ind (P := fun L => bestL a L = some e → e ∈ L ∧ e.p.has a = true) (fun h => nomatch h) (fun L x ih h => ?_) L
  rw [best_snoc, bestS] at h
  split at h
  · rename_i hb
    cases h
    rw [bestB, Bool.and_eq_true] at hb
    exact ⟨List.mem_append.2 (.inr (List.mem_singleton.2 rfl)), hb.1⟩
  · obtain ⟨h1, h2⟩ := ih h
    exact ⟨List.mem_append.2 (.inl h1), h2⟩
def enS : Option En → Int × Int
  | none => (-1, -1)
  | some e => (e.v, e.p.n)
theorem lk_best (a : Nat) (L : List En) : Tb L → L.foldl (lkS a) (-1, -1) = enS (bestL a L) := by
  refine en_ind (P := fun L => Tb L → L.foldl (lkS a) (-1, -1) = enS (bestL a L)) (fun _ => rfl) (fun L x ih h => ?_) L
  rw [List.foldl_append, ih (h.sub (List.sublist_append_left ..)), best_snoc]
  have hx := h.ok x (List.mem_append.2 (.inr (List.mem_singleton.2 rfl)))
  obtain ⟨v1, v2, v3⟩ := Pf.valid_iff.1 hx.1
  show lkS a (enS (bestL a L)) x = enS (bestS a (bestL a L) x)
  rw [lkS, bestS, bestB]
  cases hh : x.p.has a with
  | false => simp
  | true =>
    cases hb : bestL a L with
    | none =>
      have hd : decide ((enS none).2 < x.p.n) = true := decide_eq_true (show (-1 : Int) < x.p.n by omega)
      rw [hd]; rfl
    | some e =>
      obtain ⟨h1, h2⟩ := best_in hb
      have hne : e.p.n ≠ x.p.n := fun e1 => by
        have e2 := has_same h2 hh e1
        have := (List.pairwise_append.1 h.srt).2.2 e h1 x (List.mem_singleton.2 rfl)
        rw [e2] at this
        exact pLt_irrefl _ this
      by_cases hlt : e.p.n < x.p.n
      · have hd : decide ((enS (some e)).2 < x.p.n) = true := decide_eq_true hlt
        have hd2 : decide (((some e).getD En.zero).p.n ≤ x.p.n) = true := decide_eq_true (Int.le_of_lt hlt)
        rw [hd, hd2]; rfl
      · have hd : decide ((enS (some e)).2 < x.p.n) = false := decide_eq_false hlt
        have hd2 : decide (((some e).getD En.zero).p.n ≤ x.p.n) = false := decide_eq_false (show ¬e.p.n ≤ x.p.n by omega)
        rw [hd, hd2]; rfl
/-- The lookup as the best entry's value. -/
theorem lk_eq {L : List En} (a : Nat) (h : Tb L) : lk L a = match bestL a L with | none => -1 | some e => e.v := by
  rw [lk, lk_best a L h]; cases bestL a L <;> rfl

/-! ### Lookups between the bounds -/
theorem fold_congr {α β : Type} {f g : α → β → α} : ∀ (L : List β) (s : α), (∀ s, ∀ x ∈ L, f s x = g s x) → L.foldl f s = L.foldl g s
  | [], _, _ => rfl
  | x :: l, s, h => by
    rw [List.foldl_cons, List.foldl_cons, h s x (List.mem_cons_self ..)]
    exact fold_congr l _ fun s y hy => h s y (List.mem_cons_of_mem _ hy)
theorem words_mem {L : List En} {x : Int} : x ∈ words L ↔ ∃ e ∈ L, x = e.p.a ∨ x = (e.p.last : Int) + 1 := by
  unfold words
  rw [List.mem_flatMap]
  simp
/-- Between two bounds a lookup does not change. -/
theorem lk_const {L : List En} (hv : ∀ e ∈ L, e.p.valid = true) {x d : Nat} (hd : d ≤ x) (h : ∀ b ∈ words L, b ≤ (x : Int) → b ≤ (d : Int)) : lk L x = lk L d := by
  unfold lk
  congr 1
  refine fold_congr L _ fun s e he => ?_
  have hve := hv e he
  have h1 : e.p.has x = e.p.has d := by
    rw [Bool.eq_iff_iff, has_iff hve, has_iff hve]
    have h2 := h e.p.a (words_mem.2 ⟨e, he, .inl rfl⟩)
    have h3 := h ((e.p.last : Int) + 1) (words_mem.2 ⟨e, he, .inr rfl⟩)
    omega
  rw [lkS, lkS, h1]

/-! ### The list of bounds -/
theorem words_range {L : List En} (ha : ∀ e ∈ L, e.p.a < 4294967296) {x : Int} (hx : x ∈ words L) : 0 ≤ x ∧ x ≤ 4294967296 := by
  obtain ⟨e, he, h⟩ := words_mem.1 hx
  have := last_lt' e.p (ha e he)
  have := ha e he
  omega
/-! ### Differ -/
end Go.Proofs.Ytjpnaofoeeegeaa


/-
  Stride tables (layer 8), plain: a range of addresses cut into prefixes; the table of runs.
  No conditions beyond those that each lemma states.
-/
namespace Go.Proofs.Ytjpnaofoeeegeaa
open Go.RowKit

/-- The prefix that begins at x and has 2^f addresses. -/
def pfB (f x : Nat) : Pf := ⟨x, ((32 - f : Nat) : Int)⟩
/-- The longest prefixes within a block that lie in a range. -/
def pcs (lo hi : Nat) : Nat → Nat → List Pf
  | 0, x => if x < lo ∨ hi < x then [] else [pfB 0 x]
  | f + 1, x => if x + (2 ^ (f + 1) - 1) < lo ∨ hi < x then [] else if lo ≤ x ∧ x + (2 ^ (f + 1) - 1) ≤ hi then [pfB (f + 1) x] else pcs lo hi f x ++ pcs lo hi f (x + 2 ^ f)
theorem pfB_valid {f x : Nat} (hf : f ≤ 32) (hx : x % 2 ^ f = 0) : (pfB f x).valid = true ∧ (pfB f x).last = x + (2 ^ f - 1) := by
  have e : 32 - (32 - f) = f := by omega
  have hv : (pfB f x).valid = true := by
    refine Pf.valid_iff.2 ⟨?_, ?_, ?_⟩
    · unfold pfB; simp
    · unfold pfB; dsimp only; omega
    · unfold pfB
      dsimp only
      rw [Int.toNat_natCast, top, e]
      exact Nat.div_mul_cancel (Nat.dvd_of_mod_eq_zero hx)
  refine ⟨hv, ?_⟩
  rw [Pf.last, if_pos hv]
  unfold pfB
  dsimp only
  rw [Int.toNat_natCast, e]
theorem al_half {f x : Nat} (hx : x % 2 ^ (f + 1) = 0) : x % 2 ^ f = 0 ∧ (x + 2 ^ f) % 2 ^ f = 0 := by
  have h1 : x % 2 ^ f = 0 := by
    rw [Nat.pow_succ] at hx
    rw [← Nat.mod_mul_right_mod x (2 ^ f) 2, hx]; exact Nat.zero_mod _
  exact ⟨h1, by rw [Nat.add_mod_right]; exact h1⟩
section
variable {lo hi : Nat}
theorem pcs_len : ∀ f x, (pcs lo hi f x).length ≤ min (x + 2 ^ f) (hi + 1) - max x lo
  | 0, x => by
    rw [pcs]; split
    · exact Nat.zero_le _
    · rw [List.length_singleton, Nat.pow_zero]; omega
  | f + 1, x => by
    have h0 : 0 < 2 ^ f := Nat.two_pow_pos f
    have e : 2 ^ (f + 1) = 2 ^ f + 2 ^ f := by rw [Nat.pow_succ]; omega
    rw [pcs, e]; split
    · exact Nat.zero_le _
    · split
      · rw [List.length_singleton]; omega
      · have h1 := pcs_len f x
        have h2 := pcs_len f (x + 2 ^ f)
        rw [List.length_append]
        generalize 2 ^ f = g at *
        omega
end
/-! ### The table of runs -/
/-- The entries of run i. -/
def runE (R : List Rn) (i : Nat) : List En := match R[i]? with
  | some r => if 0 ≤ r.2 then (pcs r.1 (nxtR R i 4294967296 - 1) 32 0).map fun p => ⟨p, r.2⟩ else []
  | none => []
def tabE (R : List Rn) : Nat → List En
  | 0 => []
  | i + 1 => tabE R i ++ runE R i
section
variable {g : Nat → Int} {R : List Rn} (hC : Canon g R 4294967296)
include hC
theorem tabE_len : ∀ k, k ≤ R.length → (tabE R k).length ≤ match R[k]? with | some r => r.1 | none => 4294967296
  | 0, hk => by
    cases hR : R[0]? with
    | none => exact Nat.zero_le _
    | some r => exact Nat.zero_le _
  | k + 1, hk => by
    have ih := tabE_len k (by omega)
    obtain ⟨r, hr⟩ : ∃ r, R[k]? = some r := ⟨_, List.getElem?_eq_getElem (by omega)⟩
    rw [hr] at ih
    dsimp only at ih
    have hn := hC.nxt hr
    have h1 : (runE R k).length ≤ nxtR R k 4294967296 - r.1 := by
      unfold runE
      rw [hr]
      dsimp only
      split
      · rw [List.length_map]
        have := pcs_len (lo := r.1) (hi := nxtR R k 4294967296 - 1) 32 0
        omega
      · exact Nat.zero_le _
    have h2 : nxtR R k 4294967296 = match R[k + 1]? with | some r => r.1 | none => 4294967296 := rfl
    rw [← h2, tabE, List.length_append]
    omega
end
end Go.Proofs.Ytjpnaofoeeegeaa


/-
  Sets of addresses as intervals (the reference of layer 5): merged.
  Conditions: the lists are not too long for a machine.
-/
namespace Go.Proofs.Ytjpnaofoeeegeaa
open Go.RowKit

/-! ### Intervals -/
abbrev Sp := Nat × Nat
def spC (s : Sp) : List Value := [.int .u64 s.1, .int .u64 s.2]
/-! ### merged -/
end Go.Proofs.Ytjpnaofoeeegeaa


/-
  Sets of addresses as intervals (the reference of layer 5): spans, outside, both.
  Conditions: the lists are not too long for a machine.
-/
namespace Go.Proofs.Ytjpnaofoeeegeaa
open Go.RowKit

theorem inK_u64 (n : Nat) (h : n ≤ 8589934592) : InK .u64 (n : Int) := by simp only [InK]; omega
/-! ### outside -/
end Go.Proofs.Ytjpnaofoeeegeaa


/-
  Sets of addresses as intervals (the reference of layer 5): prefixes, Subtract.
  Conditions: the lists are not too long for a machine.
-/
namespace Go.Proofs.Ytjpnaofoeeegeaa
open Go.RowKit

/-- The length of the largest prefix that begins at lo and ends before hi, none longer than n bits. -/
def bigN (lo hi : Nat) : Nat → Nat
  | 0 => 0
  | n + 1 => if lo % 2 ^ (32 - n) = 0 ∧ lo + 2 ^ (32 - n) ≤ hi then bigN lo hi n else n + 1
theorem bigN_spec {lo hi : Nat} : ∀ (n : Nat), n ≤ 32 → lo + 2 ^ (32 - n) ≤ hi → bigN lo hi n ≤ n ∧ lo + 2 ^ (32 - bigN lo hi n) ≤ hi
  | 0, _, h => ⟨Nat.le_refl _, h⟩
  | n + 1, hn, h => by
    rw [bigN]
    split
    · rename_i h1
      have := bigN_spec n (by omega) h1.2
      exact ⟨by omega, this.2⟩
    · exact ⟨Nat.le_refl _, h⟩
def prefF : Nat → Nat → Nat → List Pf
  | 0, _, _ => []
  | f + 1, lo, hi => if lo < hi then ⟨lo, bigN lo hi 32⟩ :: prefF f (lo + 2 ^ (32 - bigN lo hi 32)) hi else []
theorem prefF_more : ∀ (f g lo hi : Nat), hi - lo ≤ f → hi - lo ≤ g → prefF f lo hi = prefF g lo hi
  | 0, 0, lo, hi, _, _ => rfl
  | 0, g + 1, lo, hi, h, _ => by rw [prefF, prefF, if_neg (by omega)]
  | f + 1, 0, lo, hi, _, h => by rw [prefF, prefF, if_neg (by omega)]
  | f + 1, g + 1, lo, hi, h1, h2 => by
    rw [prefF, prefF]
    split
    · have : 0 < 2 ^ (32 - bigN lo hi 32) := Nat.two_pow_pos _
      rw [prefF_more f g _ hi (by omega) (by omega)]
    · rfl
theorem prefF_len : ∀ (f lo hi : Nat), (prefF f lo hi).length ≤ f
  | 0, _, _ => Nat.le_refl _
  | f + 1, lo, hi => by
    rw [prefF]
    split
    · rw [List.length_cons]; have := prefF_len f (lo + 2 ^ (32 - bigN lo hi 32)) hi; omega
    · exact Nat.zero_le _
/-- The prefixes of an interval: each time the largest that begins at its least address. -/
def prefL (lo hi : Nat) : List Pf := prefF (hi - lo) lo hi
theorem prefL_nil {lo hi : Nat} (h : ¬lo < hi) : prefL lo hi = [] := by
  rw [prefL, show hi - lo = 0 by omega]; rfl
theorem prefL_step {lo hi : Nat} (h : lo < hi) : prefL lo hi = ⟨lo, bigN lo hi 32⟩ :: prefL (lo + 2 ^ (32 - bigN lo hi 32)) hi := by
  have h0 : 0 < 2 ^ (32 - bigN lo hi 32) := Nat.two_pow_pos _
  obtain ⟨f, hf⟩ : ∃ f, hi - lo = f + 1 := ⟨hi - lo - 1, by omega⟩
  rw [prefL, hf, prefF, if_pos h, prefL, prefF_more f (hi - (lo + 2 ^ (32 - bigN lo hi 32))) _ hi (by omega) (by omega)]
theorem prefL_len (lo hi : Nat) : (prefL lo hi).length ≤ hi - lo := prefF_len ..
def prefsL (L : List Sp) : List Pf := L.flatMap fun s => prefL s.1 s.2
theorem prefsL_snoc {L : List Sp} {k : Nat} {s : Sp} (h : L[k]? = some s) : prefsL (L.take (k + 1)) = prefsL (L.take k) ++ prefL s.1 s.2 := by
  unfold prefsL
  rw [List.take_add_one, h, Option.toList_some, List.flatMap_append]; simp
theorem prefsL_len {L : List Sp} (h : ∀ s ∈ L, s.2 ≤ 4294967296) : (prefsL L).length ≤ L.length * 4294967296 := by
  unfold prefsL
  induction L with
  | nil => simp
  | cons s L ih =>
    have ih := ih fun t ht => h t (List.mem_cons_of_mem _ ht)
    have h1 := prefL_len s.1 s.2
    have h2 := h s (List.mem_cons_self ..)
    rw [List.flatMap_cons, List.length_append, List.length_cons, Nat.succ_mul]
    omega
theorem roomP {m n : Nat} (h : m ≤ n * 4294967296) (hn : n ≤ 1000) : (m + 1) * 16 ≤ 140737488355328 := by
  have h1 : n * 4294967296 ≤ 1000 * 4294967296 := Nat.mul_le_mul_right _ hn
  have h2 : m + 1 ≤ 4294967296001 := by omega
  exact Nat.le_trans (Nat.mul_le_mul_right 16 h2) (by decide)
theorem pow_cast (a : Nat) : (1 : Int) * 2 ^ a = ((2 ^ a : Nat) : Int) := by rw [Int.one_mul]; simp
set_option maxHeartbeats 2000000 in
theorem prefixesR_v (ao : Option Addr) (L : List Sp) (c : Nat) (w : World) (hL : Arr w 2 ao (L.map spC)) (hB : ∀ s ∈ L, s.2 ≤ 4294967296) (hn : L.length ≤ 1000) :
    Calls Try.prog 92 #[.slice ao L.length c] w (Gives (fun r w' => Own w' w.heap.size 40 2 r ((prefsL L).map Pf.cells)) w) := by
  refine V_enter (vs := [_]) Try.func92 rfl Try.ntmps92 (Nat.le_of_ble_eq_true rfl) ?_
  repeat (first | refine Vx ?_ | (apply Ops_q; (case hon => exact Va); (case hd => rfl); (case hq => exact YlA)) | refine Vr ?_ | refine Vt ?_ | refine Vf ?_ | refine Vm ?_ | refine Ve ?_ | refine Vo ?_ | refine Vz ?_ | refine Vn ?_)
  refine V_loop (fun s : Nat × Value => [(9, .int .i64 s.1), (8, .int .i64 L.length), (7, .slice ao L.length c), (3, s.2)])
    (fun s w' => s.1 ≤ L.length ∧ Ext w w' ∧ Own w' w.heap.size 40 2 s.2 ((prefsL (L.take s.1)).map Pf.cells)) (fun s => L.length - s.1) (0, .slice none 0 0) (by repeat (first | exact trivial | refine ⟨rfl, ?_⟩)) ⟨Nat.zero_le _, Ext.refl _, Own.nil⟩ ?_
  rintro ⟨k, v⟩ w1 ⟨hk, x1, o1⟩
  dsimp only at hk o1 ⊢
  repeat (first | refine Vx ?_ | (apply Ops_q; (case hon => exact Va); (case hd => rfl); (case hq => exact YlA)) | refine Vr ?_ | refine Vt ?_ | refine Vf ?_ | refine Vm ?_ | refine Ve ?_ | refine Vo ?_ | refine Vz ?_ | refine Vn ?_)
  refine V_cond rfl (fun hg => ?_) (fun hg => ?_)
  · replace hg := of_decide_eq_true hg
    have hkl : k < L.length := by omega
    obtain ⟨s, hs⟩ : ∃ s, L[k]? = some s := ⟨_, List.getElem?_eq_getElem hkl⟩
    obtain ⟨ad, rfl, hc⟩ := hL k (spC s) (by rw [List.getElem?_map, hs]; rfl)
    have hsb := hB s (List.mem_of_getElem? hs)
    have hsn := prefsL_snoc hs
    have hpl : (prefsL (L.take k)).length + (prefL s.1 s.2).length ≤ L.length * 4294967296 := by
      rw [← List.length_append, ← hsn]
      refine Nat.le_trans (prefsL_len fun t ht => hB t (List.mem_of_mem_take ht)) (Nat.mul_le_mul_right _ ?_)
      rw [List.length_take]; exact Nat.min_le_right ..
    obtain ⟨lo, hi⟩ := s
    dsimp only at hsb hsn hpl
    have hc1 : Cells w1 (ad.add (k * 2)) [.int .u64 lo, .int .u64 hi] := hc.ext x1
    repeat (first | refine Vx ?_ | (apply Ops_q; (case hon => exact Va); (case hd => rfl); (case hq => exact YlA)) | refine Vr ?_ | refine Vt ?_ | refine Vf ?_ | refine Vm ?_ | refine Ve ?_ | refine Vo ?_ | refine Vz ?_ | refine Vn ?_)
    (apply Ops_q; (case hon => (exact Va)); (case hd => rfl); (case hq => exact Yl_indexS (j := k) rfl rfl (by omega)))
    repeat (first | refine Vx ?_ | (apply Ops_q; (case hon => exact Va); (case hd => rfl); (case hq => exact YlA)) | refine Vr ?_ | refine Vt ?_ | refine Vf ?_ | refine Vm ?_ | refine Ve ?_ | refine Vo ?_ | refine Vz ?_ | refine Vn ?_)
    (refine Ops_alloc (by exact Va) rfl ?_; intro w2 b5 n_b5; have k_b5 := n_b5.blk)
    repeat (first | refine Vx ?_ | (apply Ops_q; (case hon => exact Va); (case hd => rfl); (case hq => exact YlA)) | refine Vr ?_ | refine Vt ?_ | refine Vf ?_ | refine Vm ?_ | refine Ve ?_ | refine Vo ?_ | refine Vz ?_ | refine Vn ?_)
    (refine Ops_store (by exact Va) rfl rfl (by assumption) (by first | rfl | exact OneAll.h) ?_; intro w3 u_w3; have k_b5 := u_w3.blk)
    have y3 := u_w3.below n_b5.ext n_b5.ge
    have x3 := x1.trans y3
    have o3 := o1.ext y3
    have hb5 : w.heap.size ≤ b5 := Nat.le_trans x1.size n_b5.ge
    have hbv : v.ownBlock ≠ some b5 := fun e => by have := o1.lt e; have := n_b5.ge; omega
    clear u_w3 n_b5 o1 x1 y3 hc1
    repeat (first | refine Vx ?_ | (apply Ops_q; (case hon => exact Va); (case hd => rfl); (case hq => exact YlA)) | refine Vr ?_ | refine Vt ?_ | refine Vf ?_ | refine Vm ?_ | refine Ve ?_ | refine Vo ?_ | refine Vz ?_ | refine Vn ?_)
    refine V_loop (fun q : Nat × Value × List Pf => [(3, q.2.1), (5, .pointer (some ⟨b5, 0, none⟩)), (9, .int .i64 k), (8, .int .i64 L.length), (7, .slice (some ad) L.length c)])
      (fun q w' => Ext w w' ∧ Own w' w.heap.size 40 2 q.2.1 (q.2.2.map Pf.cells) ∧ Blk w' b5 150 [.int .u64 q.1, .int .u64 hi] ∧ q.2.1.ownBlock ≠ some b5 ∧ q.2.2 ++ prefL q.1 hi = prefsL (L.take k) ++ prefL lo hi) (fun q => hi - q.1) (lo, v, prefsL (L.take k)) (by repeat (first | exact trivial | refine ⟨rfl, ?_⟩)) ⟨x3, o3, k_b5, hbv, rfl⟩ ?_
    clear o3 k_b5 hbv x3
    rintro ⟨l, v, A⟩ w1 ⟨x1, o1, kb5, hbv, hA⟩
    dsimp only at o1 kb5 hbv hA ⊢
    repeat (first | refine Vx ?_ | (apply Ops_q; (case hon => exact Va); (case hd => rfl); (case hq => exact YlA)) | refine Vr ?_ | refine Vt ?_ | refine Vf ?_ | refine Vm ?_ | refine Ve ?_ | refine Vo ?_ | refine Vz ?_ | refine Vn ?_)
    refine V_cond rfl (fun hg2 => ?_) (fun hg2 => ?_)
    · have hlh : l < hi := by have := of_decide_eq_true hg2; omega
      clear hg2
      have hst := prefL_step hlh
      obtain ⟨hb1, hb2⟩ := bigN_spec (lo := l) (hi := hi) 32 (Nat.le_refl _) (by rw [Nat.sub_self, Nat.pow_zero]; exact hlh)
      have hAl : A.length ≤ L.length * 4294967296 := by
        have := congrArg List.length hA
        rw [List.length_append, List.length_append] at this; omega
      rw [hst] at hA
      repeat (first | refine Vx ?_ | (apply Ops_q; (case hon => exact Va); (case hd => rfl); (case hq => exact YlA)) | refine Vr ?_ | refine Vt ?_ | refine Vf ?_ | refine Vm ?_ | refine Ve ?_ | refine Vo ?_ | refine Vz ?_ | refine Vn ?_)
      refine V_loop (fun n : Nat => [(6, .int .i64 n), (3, v), (5, .pointer (some ⟨b5, 0, none⟩)), (9, .int .i64 k), (8, .int .i64 L.length), (7, .slice (some ad) L.length c)])
        (fun n w' => w' = w1 ∧ n ≤ 32 ∧ bigN l hi n = bigN l hi 32) (fun n => n) 32 (by repeat (first | exact trivial | refine ⟨rfl, ?_⟩)) ⟨rfl, Nat.le_refl _, rfl⟩ ?_
      rintro n w2 ⟨rfl, hn32, hbn⟩
      repeat (first | refine Vx ?_ | (apply Ops_q; (case hon => exact Va); (case hd => rfl); (case hq => exact YlA)) | refine Vr ?_ | refine Vt ?_ | refine Vf ?_ | refine Vm ?_ | refine Ve ?_ | refine Vo ?_ | refine Vz ?_ | refine Vn ?_)
      refine Ops_meet [(39, .bool (decide (0 < n ∧ l % 2 ^ (33 - n) = 0 ∧ l + 2 ^ (33 - n) ≤ hi))), (6, .int .i64 n), (3, v), (5, .pointer (some ⟨b5, 0, none⟩)), (9, .int .i64 k), (8, .int .i64 L.length), (7, .slice (some ad) L.length c)] ?_ ?_
      · refine Ops_split rfl rfl (fun h1 => ?_) (fun h1 => ?_)
        · have hn0 : 0 < n := by have := of_decide_eq_true h1; omega
          have hp0 : 1 ≤ 2 ^ (33 - n) := Nat.two_pow_pos _
          have hp1 : 2 ^ (33 - n) ≤ 2 ^ 32 := Nat.pow_le_pow_right (by decide) (by omega)
          have e33 : ((33 : Int) - (n : Int)).toNat = 33 - n := by omega
          have ep : (1 : Int) * 2 ^ ((33 : Int) - (n : Int)).toNat = ((2 ^ (33 - n) : Nat) : Int) := by rw [e33]; exact pow_cast _
          have i0 : (1 : Int) ≤ 1 * 2 ^ ((33 : Int) - (n : Int)).toNat := by rw [ep]; omega
          have i1 : InK .u64 ((1 : Int) * 2 ^ ((33 : Int) - (n : Int)).toNat) := by rw [ep]; exact inK_u64 _ (by omega)
          have i2 : InK .u64 ((l : Int) + 1 * 2 ^ ((33 : Int) - (n : Int)).toNat) := by rw [ep, ← Int.natCast_add]; exact inK_u64 _ (by omega)
          have q1 : (l : Int) % (1 * 2 ^ ((33 : Int) - (n : Int)).toNat) = ((l % 2 ^ (33 - n) : Nat) : Int) := by rw [ep, Int.natCast_emod]
          repeat (first | refine Vx ?_ | (apply Ops_q; (case hon => exact Va); (case hd => rfl); (case hq => exact YlA)) | refine Vr ?_ | refine Vt ?_ | refine Vf ?_ | refine Vm ?_ | refine Ve ?_ | refine Vo ?_ | refine Vz ?_ | refine Vn ?_)
          rw [q1]
          repeat (first | refine Vx ?_ | (apply Ops_q; (case hon => exact Va); (case hd => rfl); (case hq => exact YlA)) | refine Vr ?_ | refine Vt ?_ | refine Vf ?_ | refine Vm ?_ | refine Ve ?_ | refine Vo ?_ | refine Vz ?_ | refine Vn ?_)
          refine Ops_split rfl rfl (fun h2 => ?_) (fun h2 => ?_)
          · have h3 : l % 2 ^ (33 - n) = 0 := by have := of_decide_eq_true h2; omega
            clear h2
            repeat (first | refine Vx ?_ | (apply Ops_q; (case hon => exact Va); (case hd => rfl); (case hq => exact YlA)) | refine Vr ?_ | refine Vt ?_ | refine Vf ?_ | refine Vm ?_ | refine Ve ?_ | refine Vo ?_ | refine Vz ?_ | refine Vn ?_)
            refine ⟨⟨?_, (by repeat (first | exact trivial | refine ⟨rfl, ?_⟩))⟩, rfl⟩
            rw [ep]
            refine congrArg (fun b => some (Value.bool b)) (decide_eq_decide.2 ⟨fun h => ⟨hn0, h3, by omega⟩, fun h => ?_⟩)
            have := h.2.2
            omega
          · have h3 : ¬l % 2 ^ (33 - n) = 0 := by have := of_decide_eq_false h2; omega
            clear h2
            repeat (first | refine Vx ?_ | (apply Ops_q; (case hon => exact Va); (case hd => rfl); (case hq => exact YlA)) | refine Vr ?_ | refine Vt ?_ | refine Vf ?_ | refine Vm ?_ | refine Ve ?_ | refine Vo ?_ | refine Vz ?_ | refine Vn ?_)
            refine ⟨⟨?_, (by repeat (first | exact trivial | refine ⟨rfl, ?_⟩))⟩, rfl⟩
            exact congrArg (fun b => some (Value.bool b)) (decide_eq_false (fun h => h3 h.2.1)).symm
        · have hn0 : ¬0 < n := by have := of_decide_eq_false h1; omega
          clear h1
          repeat (first | refine Vx ?_ | (apply Ops_q; (case hon => exact Va); (case hd => rfl); (case hq => exact YlA)) | refine Vr ?_ | refine Vt ?_ | refine Vf ?_ | refine Vm ?_ | refine Ve ?_ | refine Vo ?_ | refine Vz ?_ | refine Vn ?_)
          refine ⟨⟨?_, (by repeat (first | exact trivial | refine ⟨rfl, ?_⟩))⟩, rfl⟩
          exact congrArg (fun b => some (Value.bool b)) (decide_eq_false (fun h => hn0 h.1)).symm
      repeat (first | refine Vx ?_ | (apply Ops_q; (case hon => exact Va); (case hd => rfl); (case hq => exact YlA)) | refine Vr ?_ | refine Vt ?_ | refine Vf ?_ | refine Vm ?_ | refine Ve ?_ | refine Vo ?_ | refine Vz ?_ | refine Vn ?_)
      refine V_cond rfl (fun hc => ?_) (fun hc => ?_)
      · have hc2 := of_decide_eq_true hc
        clear hc
        obtain ⟨m, rfl⟩ : ∃ m, n = m + 1 := ⟨n - 1, by omega⟩
        rw [show 33 - (m + 1) = 32 - m by omega] at hc2
        have em : ((m + 1 : Nat) : Int) - 1 = (m : Int) := by omega
        repeat (first | refine Vx ?_ | (apply Ops_q; (case hon => exact Va); (case hd => rfl); (case hq => exact YlA)) | refine Vr ?_ | refine Vt ?_ | refine Vf ?_ | refine Vm ?_ | refine Ve ?_ | refine Vo ?_ | refine Vz ?_ | refine Vn ?_)
        rw [em]
        refine ⟨m, (by repeat (first | exact trivial | refine ⟨rfl, ?_⟩)), ⟨rfl, by omega, ?_⟩, by omega⟩
        rw [← hbn, bigN, if_pos hc2.2]
      · have hc2 := of_decide_eq_false hc
        clear hc
        have hbe : bigN l hi 32 = n := by
          rw [← hbn]
          cases n with
          | zero => rfl
          | succ m =>
            rw [show 33 - (m + 1) = 32 - m by omega] at hc2
            rw [bigN, if_neg (fun h => hc2 ⟨Nat.succ_pos _, h⟩)]
        rw [hbe] at hst hA hb2
        have hl32 : InK .u32 (l : Int) := by
          have : 0 < 2 ^ (32 - n) := Nat.two_pow_pos _
          simp only [InK]; omega
        have ep : (1 : Int) * 2 ^ ((32 : Int) - (n : Int)).toNat = ((2 ^ (32 - n) : Nat) : Int) := by
          rw [show ((32 : Int) - (n : Int)).toNat = 32 - n by omega]; exact pow_cast _
        have i1 : InK .u64 ((1 : Int) * 2 ^ ((32 : Int) - (n : Int)).toNat) := by rw [ep]; exact inK_u64 _ (by omega)
        have i2 : InK .u64 ((l : Int) + 1 * 2 ^ ((32 : Int) - (n : Int)).toNat) := by rw [ep, ← Int.natCast_add]; exact inK_u64 _ (by omega)
        have q2 : (l : Int) + 1 * 2 ^ ((32 : Int) - (n : Int)).toNat = ((l + 2 ^ (32 - n) : Nat) : Int) := by rw [ep, Int.natCast_add]
        have hrm := roomP hAl hn
        repeat (first | refine Vx ?_ | (apply Ops_q; (case hon => exact Va); (case hd => rfl); (case hq => exact YlA)) | refine Vr ?_ | refine Vt ?_ | refine Vf ?_ | refine Vm ?_ | refine Ve ?_ | refine Vo ?_ | refine Vz ?_ | refine Vn ?_)
        (refine Ops_lit (by exact Va) rfl rfl rfl ?_; intro w6 b6 n_b6; have k_b6 := n_b6.blk)
        have o6 := o1.ext n_b6.ext
        have x6 := x1.trans n_b6.ext
        have hcs : Cells w6 ⟨b6, 0, none⟩ (Pf.cells ⟨l, n⟩) := n_b6.blk.cells
        repeat (first | refine Vx ?_ | (apply Ops_q; (case hon => exact Va); (case hd => rfl); (case hq => exact YlA)) | refine Vr ?_ | refine Vt ?_ | refine Vf ?_ | refine Vm ?_ | refine Ve ?_ | refine Vo ?_ | refine Vz ?_ | refine Vn ?_)
        refine Ops_append1 (u := Pf.cells ⟨l, n⟩) (by exact Va) rfl rfl rfl rfl o6 hcs ⟨rfl⟩ ⟨rfl⟩ (by rw [List.length_map]; exact hrm) rfl x6.size ?_
        intro v' w7 o7 g7 d7
        have m7 : Mod (fun c => v.ownBlock = some c) w2 w7 := (Mod.of_ext n_b6.ext).grow g7 (fun b hb => .inl hb)
        have x7 : Ext w w7 := Mod.ext_of x1 m7 (fun c hc => o6.ge hc)
        rw [show [Pf.cells ⟨l, n⟩] = [(⟨l, n⟩ : Pf)].map Pf.cells from rfl, ← List.map_append] at o7
        have k7 := m7.blk kb5 hbv
        have hbv7 : v'.ownBlock ≠ some b5 := dis_app d7 hbv (Nat.lt_of_lt_of_le kb5.lt n_b6.ext.size)
        clear g7 hcs o6 x6 n_b6 k_b6 d7 m7 o1 x1 kb5
        repeat (first | refine Vx ?_ | (apply Ops_q; (case hon => exact Va); (case hd => rfl); (case hq => exact YlA)) | refine Vr ?_ | refine Vt ?_ | refine Vf ?_ | refine Vm ?_ | refine Ve ?_ | refine Vo ?_ | refine Vz ?_ | refine Vn ?_)
        refine V_region_mixed 6 (by kernel_rfl) (by kernel_rfl) rfl ?_
        repeat (first | refine Vx ?_ | (apply Ops_q; (case hon => exact Va); (case hd => rfl); (case hq => exact YlA)) | refine Vr ?_ | refine Vt ?_ | refine Vf ?_ | refine Vm ?_ | refine Ve ?_ | refine Vo ?_ | refine Vz ?_ | refine Vn ?_)
        rw [q2]
        repeat (first | refine Vx ?_ | (apply Ops_q; (case hon => exact Va); (case hd => rfl); (case hq => exact YlA)) | refine Vr ?_ | refine Vt ?_ | refine Vf ?_ | refine Vm ?_ | refine Ve ?_ | refine Vo ?_ | refine Vz ?_ | refine Vn ?_)
        refine Ops_store (by exact Va) rfl rfl k7 (by first | rfl | exact OneAll.h) ?_
        intro w8 u_w8
        have k8 := u_w8.blk
        have x8 : Ext w w8 := u_w8.below x7 hb5
        have o8 := o7.upd u_w8 hbv7
        repeat (first | refine Vx ?_ | (apply Ops_q; (case hon => exact Va); (case hd => rfl); (case hq => exact YlA)) | refine Vr ?_ | refine Vt ?_ | refine Vf ?_ | refine Vm ?_ | refine Ve ?_ | refine Vo ?_ | refine Vz ?_ | refine Vn ?_)
        refine ⟨(l + 2 ^ (32 - n), v', A ++ [⟨l, n⟩]), (by repeat (first | exact trivial | refine ⟨rfl, ?_⟩)), ⟨x8, o8, k8, hbv7, ?_⟩, ?_⟩
        · rw [List.append_assoc]; exact hA
        · have : 0 < 2 ^ (32 - n) := Nat.two_pow_pos _
          dsimp only; omega
    · have hlh : ¬l < hi := by have := of_decide_eq_false hg2; omega
      clear hg2
      rw [prefL_nil hlh, List.append_nil] at hA
      repeat (first | refine Vx ?_ | (apply Ops_q; (case hon => exact Va); (case hd => rfl); (case hq => exact YlA)) | refine Vr ?_ | refine Vt ?_ | refine Vf ?_ | refine Vm ?_ | refine Ve ?_ | refine Vo ?_ | refine Vz ?_ | refine Vn ?_)
      refine ⟨(k + 1, v), (by repeat (first | exact trivial | refine ⟨rfl, ?_⟩)), ⟨hkl, x1, ?_⟩, by simp only; omega⟩
      dsimp only
      rw [hsn, ← hA]; exact o1
  replace hg := of_decide_eq_false hg
  obtain rfl : k = L.length := by omega
  rw [List.take_length] at o1
  repeat (first | refine Vx ?_ | (apply Ops_q; (case hon => exact Va); (case hd => rfl); (case hq => exact YlA)) | refine Vr ?_ | refine Vt ?_ | refine Vf ?_ | refine Vm ?_ | refine Ve ?_ | refine Vo ?_ | refine Vz ?_ | refine Vn ?_)
  refine ret1 (by first | exact .inl rfl | exact .inr rfl) rfl rfl ?_
  exact Gives_mk (fun w' he => o1.ext he) x1
/-! ### Subtract -/
end Go.Proofs.Ytjpnaofoeeegeaa


/-
  Stride tables (layer 8), plain: the pieces of a range are the reference's prefixes; runs as intervals; the way of an address hangs on its function alone.
  No conditions beyond those that each lemma states.
-/
namespace Go.Proofs.Ytjpnaofoeeegeaa
open Go.RowKit

/-! ### Pieces are the greedy prefixes -/
theorem bigN_congr {lo m hi : Nat} (hm : m ≤ hi) (h : ∀ k, k ≤ 32 → lo % 2 ^ k = 0 → lo + 2 ^ k ≤ hi → lo + 2 ^ k ≤ m) : ∀ n, n ≤ 32 → bigN lo hi n = bigN lo m n
  | 0, _ => rfl
  | n + 1, hn => by
    rw [bigN, bigN, bigN_congr hm h n (by omega)]
    by_cases c : lo % 2 ^ (32 - n) = 0 ∧ lo + 2 ^ (32 - n) ≤ hi
    · rw [if_pos c, if_pos ⟨c.1, h _ (by omega) c.1 c.2⟩]
    · rw [if_neg c, if_neg (fun c' => c ⟨c'.1, Nat.le_trans c'.2 hm⟩)]
theorem prefL_app {m hi : Nat} (hm : m ≤ hi) : ∀ f lo, m - lo ≤ f → lo ≤ m → (∀ a k, lo ≤ a → a < m → k ≤ 32 → a % 2 ^ k = 0 → a + 2 ^ k ≤ hi → a + 2 ^ k ≤ m) → prefL lo hi = prefL lo m ++ prefL m hi := by
  intro f
  induction f with
  | zero =>
    intro lo h1 h2 _
    obtain rfl : lo = m := by omega
    rw [prefL_nil (Nat.lt_irrefl lo), List.nil_append]
  | succ f ih =>
    intro lo h1 h2 h
    rcases Nat.lt_or_ge lo m with hlt | hge
    · have e := bigN_congr hm (fun k hk h3 h4 => h lo k (Nat.le_refl _) hlt hk h3 h4) 32 (Nat.le_refl _)
      have hs := (bigN_spec (lo := lo) (hi := m) 32 (Nat.le_refl _) (by rw [Nat.sub_self, Nat.pow_zero]; exact hlt)).2
      have hp : 0 < 2 ^ (32 - bigN lo m 32) := Nat.two_pow_pos _
      rw [prefL_step (Nat.lt_of_lt_of_le hlt hm), prefL_step hlt, e]
      rw [ih _ (by omega) hs (fun a k h3 => h a k (by omega)), List.cons_append]
    · obtain rfl : lo = m := by omega
      rw [prefL_nil (Nat.lt_irrefl lo), List.nil_append]
theorem mod_le {x f k : Nat} (hx : x % 2 ^ f = 0) (h : k ≤ f) : x % 2 ^ k = 0 := Nat.mod_eq_zero_of_dvd (Nat.dvd_trans (Nat.pow_dvd_pow 2 h) (Nat.dvd_of_mod_eq_zero hx))
theorem bigN_block {f x : Nat} (hf : f ≤ 32) (hx : x % 2 ^ f = 0) : ∀ n, 32 - f ≤ n → n ≤ 32 → bigN x (x + 2 ^ f) n = 32 - f
  | 0, h1, _ => by rw [bigN]; omega
  | n + 1, h1, h2 => by
    rw [bigN]
    rcases Nat.lt_or_ge n (32 - f) with h3 | h3
    · have e : 32 - n = f + 1 := by omega
      have hp : 0 < 2 ^ f := Nat.two_pow_pos f
      rw [e, if_neg (fun c => by have := c.2; rw [Nat.pow_succ] at this; omega)]; omega
    · rw [if_pos ⟨mod_le hx (by omega), Nat.add_le_add_left (Nat.pow_le_pow_right (by decide) (by omega)) x⟩]
      exact bigN_block hf hx n h3 (by omega)
theorem prefL_block {f x : Nat} (hf : f ≤ 32) (hx : x % 2 ^ f = 0) : prefL x (x + 2 ^ f) = [pfB f x] := by
  have hp : 0 < 2 ^ f := Nat.two_pow_pos f
  rw [prefL_step (by omega), bigN_block hf hx 32 (by omega) (Nat.le_refl _), show 32 - (32 - f) = f by omega, prefL_nil (Nat.lt_irrefl _)]; rfl
theorem mul_gap {a m g : Nat} (ha : g ∣ a) (hm : g ∣ m) (h : a < m) : a + g ≤ m := by
  obtain ⟨u, rfl⟩ := ha
  obtain ⟨v, rfl⟩ := hm
  have h1 : u < v := Nat.lt_of_mul_lt_mul_left h
  have h2 := Nat.mul_le_mul_left g (show u + 1 ≤ v from h1)
  rw [Nat.mul_succ] at h2; exact h2
theorem pcs_pref {lo hi : Nat} : ∀ f x, f ≤ 32 → x % 2 ^ f = 0 → pcs lo hi f x = prefL (max lo x) (min (hi + 1) (x + 2 ^ f))
  | 0, x, hf, hx => by
    rw [pcs]
    split
    · rw [prefL_nil]; rw [Nat.pow_zero]; omega
    · rw [show max lo x = x by omega, show min (hi + 1) (x + 2 ^ 0) = x + 2 ^ 0 by rw [Nat.pow_zero]; omega]
      exact (prefL_block hf hx).symm
  | f + 1, x, hf, hx => by
    have hp : 0 < 2 ^ f := Nat.two_pow_pos f
    have e2 : 2 ^ (f + 1) = 2 ^ f + 2 ^ f := by rw [Nat.pow_succ]; omega
    obtain ⟨a1, a2⟩ := al_half hx
    rw [pcs]
    split
    · rw [prefL_nil]; omega
    · rename_i hno
      split
      · rename_i hin
        rw [show max lo x = x by omega, show min (hi + 1) (x + 2 ^ (f + 1)) = x + 2 ^ (f + 1) by omega]
        exact (prefL_block hf hx).symm
      · rename_i hout
        rw [pcs_pref f x (by omega) a1, pcs_pref f (x + 2 ^ f) (by omega) a2]
        rcases Nat.lt_or_ge (x + 2 ^ f) (hi + 1) with h1 | h1
        · rcases Nat.lt_or_ge lo (x + 2 ^ f) with h2 | h2
          · rw [show min (hi + 1) (x + 2 ^ f) = x + 2 ^ f by omega, show max lo (x + 2 ^ f) = x + 2 ^ f by omega, show x + 2 ^ f + 2 ^ f = x + 2 ^ (f + 1) by omega]
            symm
            refine prefL_app (by omega) (x + 2 ^ f) _ (by omega) (by omega) (fun a k h3 h4 h5 h6 h7 => ?_)
            rcases Nat.lt_or_ge f k with hk | hk
            · exfalso
              have h8 := mod_le h6 (show f + 1 ≤ k from hk)
              have h9 : 2 ^ (f + 1) ≤ 2 ^ k := Nat.pow_le_pow_right (by decide) hk
              rcases Nat.lt_or_ge x a with h10 | h10
              · have := mul_gap (Nat.dvd_of_mod_eq_zero hx) (Nat.dvd_of_mod_eq_zero h8) h10
                omega
              · omega
            · exact mul_gap (Nat.dvd_of_mod_eq_zero h6) (Nat.dvd_of_mod_eq_zero (mod_le a2 hk)) h4
          · rw [prefL_nil (lo := max lo x) (by omega), List.nil_append, show max lo (x + 2 ^ f) = max lo x by omega, show x + 2 ^ f + 2 ^ f = x + 2 ^ (f + 1) by omega]
        · rw [prefL_nil (lo := max lo (x + 2 ^ f)) (by omega), List.append_nil, show min (hi + 1) (x + 2 ^ f) = hi + 1 by omega, show min (hi + 1) (x + 2 ^ (f + 1)) = hi + 1 by omega]
theorem pcs_run {lo nx : Nat} (h1 : lo < nx) (h2 : nx ≤ 4294967296) : pcs lo (nx - 1) 32 0 = prefL lo nx := by
  rw [pcs_pref 32 0 (Nat.le_refl _) rfl, show (0 : Nat) + 2 ^ 32 = 4294967296 from rfl]
  rw [show max lo 0 = lo by omega, show min (nx - 1 + 1) 4294967296 = nx by omega]
/-! ### Runs as intervals -/
abbrev Tr := Nat × Nat × Int
def trC (t : Tr) : List Value := [.int .u64 t.1, .int .u64 t.2.1, .int .i64 t.2.2]
/-- The runs below hi, each with its end. -/
def trs (R : List Rn) (hi : Nat) : List Tr := (List.range R.length).map fun i => ((R.getD i (0, 0)).1, nxtR R i hi, (R.getD i (0, 0)).2)
theorem trs_len (R : List Rn) (hi : Nat) : (trs R hi).length = R.length := by unfold trs; rw [List.length_map, List.length_range]
theorem trs_at {R : List Rn} {hi i : Nat} {r : Rn} (h : R[i]? = some r) : (trs R hi)[i]? = some (r.1, nxtR R i hi, r.2) := by
  have hl := (List.getElem?_eq_some_iff.1 h).1
  unfold trs
  rw [List.getElem?_map, List.getElem?_range hl, Option.map_some, List.getD_eq_getElem?_getD, h]; rfl
theorem trs_out {R : List Rn} {hi i : Nat} (h : R.length ≤ i) : (trs R hi)[i]? = none := List.getElem?_eq_none (by rw [trs_len]; exact h)
theorem trs_snoc (R : List Rn) (lo hi : Nat) (v : Int) : trs (R ++ [(lo, v)]) hi = trs R lo ++ [(lo, hi, v)] := by
  refine List.ext_getElem? fun i => ?_
  rcases Nat.lt_trichotomy i R.length with h | h | h
  · have hr : R[i]? = some R[i] := List.getElem?_eq_getElem h
    have h2 : (R ++ [(lo, v)])[i]? = some R[i] := by rw [List.getElem?_append_left h]; exact hr
    rw [trs_at h2, List.getElem?_append_left (by rw [trs_len]; exact h), trs_at hr]
    have : nxtR (R ++ [(lo, v)]) i hi = nxtR R i lo := by
      unfold nxtR
      rcases Nat.lt_or_ge (i + 1) R.length with h4 | h4
      · rw [List.getElem?_append_left h4, List.getElem?_eq_getElem h4]
      · rw [List.getElem?_append_right h4, show i + 1 - R.length = 0 by omega, List.getElem?_eq_none h4]; rfl
    rw [this]
  · subst h
    have h2 : (R ++ [(lo, v)])[R.length]? = some (lo, v) := by rw [List.getElem?_append_right (Nat.le_refl _), Nat.sub_self]; rfl
    rw [trs_at h2, List.getElem?_append_right (by rw [trs_len]; exact Nat.le_refl _), trs_len, Nat.sub_self]
    have : nxtR (R ++ [(lo, v)]) R.length hi = hi := by unfold nxtR; rw [List.getElem?_eq_none (by simp)]
    rw [this]; rfl
  · rw [trs_out (by simp; omega), List.getElem?_eq_none (by rw [List.length_append, trs_len]; simp; omega)]
theorem trs_grow {R : List Rn} {r : Rn} (lo hi : Nat) (h : R.getLast? = some r) : (trs R lo)[R.length - 1]? = some (r.1, lo, r.2) ∧ trs R hi = (trs R lo).set (R.length - 1) (r.1, hi, r.2) := by
  rw [List.getLast?_eq_getElem?] at h
  have hl := (List.getElem?_eq_some_iff.1 h).1
  have hn : ∀ x, nxtR R (R.length - 1) x = x := fun x => by unfold nxtR; rw [List.getElem?_eq_none (by omega)]
  refine ⟨by rw [trs_at h, hn], List.ext_getElem? fun i => ?_⟩
  rw [List.getElem?_set, trs_len]
  rcases Nat.lt_trichotomy i (R.length - 1) with h1 | h1 | h1
  · have hr : R[i]? = some (R[i]'(by omega)) := List.getElem?_eq_getElem _
    rw [if_neg (by omega), trs_at hr, trs_at hr]
    have : nxtR R i hi = nxtR R i lo := by unfold nxtR; rw [List.getElem?_eq_getElem (by omega)]
    rw [this]
  · subst h1
    rw [if_pos rfl, if_pos (by omega), trs_at h, hn]
  · rw [if_neg (by omega), trs_out (by omega), trs_out (by omega)]
/-! ### The way of an address -/
theorem dep_congr {f g : Nat → Int} (h : ∀ a, a < 4294967296 → f a = g a) (a : Nat) : ∀ m p, PlOk p → dep f a m p = dep g a m p
  | 0, _, _ => rfl
  | m + 1, p, hp => by
    have hd := digN_lt a p.2
    rw [dep, dep, ← inB_congr h hp hd]
    cases hin : inB f p (digN a p.2) with
    | false => rfl
    | true =>
      have h5 : p.2 < 5 := by
        obtain ⟨b, d⟩ := p
        have := hp.1
        dsimp only at this hin ⊢
        rcases Nat.lt_or_ge d 5 with h | h
        · exact h
        · obtain rfl : d = 5 := by omega
          rw [inB_five] at hin; cases hin
      have hI := dig_in (base := p.1) hp.1 hd
      have h2 := hp.2
      rw [dep_congr h a m _ ⟨by dsimp only; omega, by dsimp only; omega⟩]
end Go.Proofs.Ytjpnaofoeeegeaa


/-
  Stride tables (layer 8): Check, Lookup, Size.
  Conditions: the lists are not too long for a machine; the words are words of 64 bits.
-/
namespace Go.Proofs.Ytjpnaofoeeegeaa
open Go.RowKit

/-- What Check says of a table: OK for the forms of functions with no value below -1. -/
def ChkC (N : List Nd) (L : List Int) (v : Int) : Prop := (v = 0 ∧ ∃ g, GeM g ∧ IsCf g N L) ∨ (v = (if N.length = 0 then 3 else 1) ∧ ∀ g, GeM g → ¬IsCf g N L)
theorem checkS_v (aN aL : Option Addr) (N : List Nd) (L : List Int) (cN cL : Nat) (w : World) (hN : Nds w aN N) (hL : Ins w aL L) (hW : NdW N) (hn : N.length ≤ 80000000000) (hl : L.length ≤ 4611686018427387904) :
    Calls Try.prog 29 #[.agg #[.slice aN N.length cN, .slice aL L.length cL]] w (Gives (fun r _ => ∃ v, r = .int .i64 v ∧ ChkC N L v) w) := by
  refine V_enter (vs := [_]) Try.func29 rfl Try.ntmps29 (Nat.le_of_ble_eq_true rfl) ?_
  repeat (first | refine Vx ?_ | (apply Ops_q; (case hon => exact Va); (case hd => rfl); (case hq => exact YlA)) | refine Vr ?_ | refine Vt ?_ | refine Vf ?_ | refine Vm ?_ | refine Ve ?_ | refine Vo ?_ | refine Vz ?_ | refine Vn ?_)
  (refine Ops_box (by exact Va) rfl rfl rfl ?_; intro w1 b1 n_b1; have k_b1 := n_b1.blk)
  have x1 := n_b1.ext
  clear n_b1
  repeat (first | refine Vx ?_ | (apply Ops_q; (case hon => exact Va); (case hd => rfl); (case hq => exact YlA)) | refine Vr ?_ | refine Vt ?_ | refine Vf ?_ | refine Vm ?_ | refine Ve ?_ | refine Vo ?_ | refine Vz ?_ | refine Vn ?_)
  refine V_cond rfl (fun h0 => ?_) (fun h0 => ?_)
  · have h0' : N.length = 0 := by have := of_decide_eq_true h0; omega
    repeat (first | refine Vx ?_ | (apply Ops_q; (case hon => exact Va); (case hd => rfl); (case hq => exact YlA)) | refine Vr ?_ | refine Vt ?_ | refine Vf ?_ | refine Vm ?_ | refine Ve ?_ | refine Vo ?_ | refine Vz ?_ | refine Vn ?_)
    refine ret1 (by first | exact .inl rfl | exact .inr rfl) rfl rfl ?_
    exact Gives_mk (fun _ _ => ⟨_, rfl, .inr ⟨by rw [if_pos h0'], fun g _ hc => by have := hc.ne; omega⟩⟩) x1
  · have h0' : ¬N.length = 0 := by have := of_decide_eq_false h0; omega
    clear h0
    repeat (first | refine Vx ?_ | (apply Ops_q; (case hon => exact Va); (case hd => rfl); (case hq => exact YlA)) | refine Vr ?_ | refine Vt ?_ | refine Vf ?_ | refine Vm ?_ | refine Ve ?_ | refine Vo ?_ | refine Vz ?_ | refine Vn ?_)
    (refine Ops_callR (by exact Va) rfl rfl (fun w_ e_ => decode_v aN aL N L cN cL w_ (hN.ext (x1.trans e_)) (hL.ext (x1.trans e_)) hW hn hl) ?_; intro vr w2 w0_ e0_ e1_ r_vr; have e_w2 := e0_.trans e1_; have b_vr := e0_.size; clear e0_ e1_)
    obtain ⟨v, ok, rfl, h1, h2⟩ := r_vr
    cases ok with
    | true =>
      obtain ⟨R, g, _, _, hc, hg⟩ := h1 rfl
      repeat (first | refine Vx ?_ | (apply Ops_q; (case hon => exact Va); (case hd => rfl); (case hq => exact YlA)) | refine Vr ?_ | refine Vt ?_ | refine Vf ?_ | refine Vm ?_ | refine Ve ?_ | refine Vo ?_ | refine Vz ?_ | refine Vn ?_)
      refine ret1 (by first | exact .inl rfl | exact .inr rfl) rfl rfl ?_
      exact Gives_mk (fun _ _ => ⟨_, rfl, .inl ⟨rfl, g, hg, hc⟩⟩) (x1.trans e_w2)
    | false =>
      have h3 := h2 rfl
      repeat (first | refine Vx ?_ | (apply Ops_q; (case hon => exact Va); (case hd => rfl); (case hq => exact YlA)) | refine Vr ?_ | refine Vt ?_ | refine Vf ?_ | refine Vm ?_ | refine Ve ?_ | refine Vo ?_ | refine Vz ?_ | refine Vn ?_)
      refine ret1 (by first | exact .inl rfl | exact .inr rfl) rfl rfl ?_
      exact Gives_mk (fun _ _ => ⟨_, rfl, .inr ⟨by rw [if_neg h0'], h3⟩⟩) (x1.trans e_w2)
theorem sizeC_v (aN aL : Option Addr) (n l cN cL : Nat) (w : World) :
    Calls Try.prog 27 #[.agg #[.slice aN n cN, .slice aL l cL]] w (Ret (.tuple #[.int .i64 n, .int .i64 l]) w) := by
  refine V_enter (vs := [_]) Try.func27 rfl Try.ntmps27 (Nat.le_of_ble_eq_true rfl) ?_
  repeat (first | refine Vx ?_ | (apply Ops_q; (case hon => exact Va); (case hd => rfl); (case hq => exact YlA)) | refine Vr ?_ | refine Vt ?_ | refine Vf ?_ | refine Vm ?_ | refine Ve ?_ | refine Vo ?_ | refine Vz ?_ | refine Vn ?_)
  (refine Ops_box (by exact Va) rfl rfl rfl ?_; intro w1 b1 n_b1; have k_b1 := n_b1.blk)
  repeat (first | refine Vx ?_ | (apply Ops_q; (case hon => exact Va); (case hd => rfl); (case hq => exact YlA)) | refine Vr ?_ | refine Vt ?_ | refine Vf ?_ | refine Vm ?_ | refine Ve ?_ | refine Vo ?_ | refine Vz ?_ | refine Vn ?_)
  refine ret2 (by first | exact .inl rfl | exact .inr rfl) rfl rfl rfl ?_
  exact Ret_mk rfl n_b1.ext
theorem digitS_v (a i : Nat) (w : World) (ha : a < 4294967296) (hi : i ≤ 5) : Calls Try.prog 43 #[.int .u32 a, .int .i64 i] w (Ret (.int .i64 (digN a i)) w) := by
  refine V_enter (vs := [_, _]) Try.func43 rfl Try.ntmps43 (Nat.le_of_ble_eq_true rfl) ?_
  have e30 : (30 : Int) - 6 * (i : Int) = ((30 - 6 * i : Nat) : Int) := by omega
  have ea : (a : Int) * 2 ^ (4 : Int).toNat = ((a * 16 : Nat) : Int) := by rw [Int.natCast_mul]; rfl
  have hk4 : InK .u64 ((a : Int) * 2 ^ (4 : Int).toNat) := by rw [ea]; simp only [InK]; omega
  have ed : bits .and .u64 ((a : Int) * 2 ^ (4 : Int).toNat / 2 ^ ((30 : Int) - 6 * (i : Int)).toNat) 63 = ((digN a i : Nat) : Int) := by
    have hlt : a * 16 / 2 ^ (30 - 6 * i) < 18446744073709551616 := Nat.lt_of_le_of_lt (Nat.div_le_self _ _) (by omega)
    rw [e30, ea, Int.toNat_natCast, cast_div, show (63 : Int) = ((63 : Nat) : Int) from rfl, u64_and_nat _ _ hlt (by omega)]
    unfold digN
    rw [show (63 : Nat) = 2 ^ 6 - 1 from rfl, Nat.and_two_pow_sub_one_eq_mod]
  have hdl := digN_lt a i
  have hin : InK .i64 (bits .and .u64 ((a : Int) * 2 ^ (4 : Int).toNat / 2 ^ ((30 : Int) - 6 * (i : Int)).toNat) 63) := by rw [ed]; simp only [InK]; omega
  clear ea e30
  repeat (first | refine Vx ?_ | (apply Ops_q; (case hon => exact Va); (case hd => rfl); (case hq => exact YlA)) | refine Vr ?_ | refine Vt ?_ | refine Vf ?_ | refine Vm ?_ | refine Ve ?_ | refine Vo ?_ | refine Vz ?_ | refine Vn ?_)
  rw [ed]
  refine ret1 (by first | exact .inl rfl | exact .inr rfl) rfl rfl ?_
  exact Ret_mk rfl (Ext.refl _)
theorem digitR_v (a i : Nat) (w : World) (ha : a < 4294967296) (hi : i ≤ 5) : Calls Try.prog 58 #[.int .u32 a, .int .i64 i] w (Ret (.int .i64 (digN a i)) w) := by
  refine V_enter (vs := [_, _]) Try.func58 rfl Try.ntmps58 (Nat.le_of_ble_eq_true rfl) ?_
  have e30 : (30 : Int) - 6 * (i : Int) = ((30 - 6 * i : Nat) : Int) := by omega
  have ea : (a : Int) * 2 ^ (4 : Int).toNat = ((a * 16 : Nat) : Int) := by rw [Int.natCast_mul]; rfl
  have hk4 : InK .u64 ((a : Int) * 2 ^ (4 : Int).toNat) := by rw [ea]; simp only [InK]; omega
  have ed : bits .and .u64 ((a : Int) * 2 ^ (4 : Int).toNat / 2 ^ ((30 : Int) - 6 * (i : Int)).toNat) 63 = ((digN a i : Nat) : Int) := by
    have hlt : a * 16 / 2 ^ (30 - 6 * i) < 18446744073709551616 := Nat.lt_of_le_of_lt (Nat.div_le_self _ _) (by omega)
    rw [e30, ea, Int.toNat_natCast, cast_div, show (63 : Int) = ((63 : Nat) : Int) from rfl, u64_and_nat _ _ hlt (by omega)]
    unfold digN
    rw [show (63 : Nat) = 2 ^ 6 - 1 from rfl, Nat.and_two_pow_sub_one_eq_mod]
  have hdl := digN_lt a i
  have hin : InK .i64 (bits .and .u64 ((a : Int) * 2 ^ (4 : Int).toNat / 2 ^ ((30 : Int) - 6 * (i : Int)).toNat) 63) := by rw [ed]; simp only [InK]; omega
  clear ea e30
  repeat (first | refine Vx ?_ | (apply Ops_q; (case hon => exact Va); (case hd => rfl); (case hq => exact YlA)) | refine Vr ?_ | refine Vt ?_ | refine Vf ?_ | refine Vm ?_ | refine Ve ?_ | refine Vo ?_ | refine Vz ?_ | refine Vn ?_)
  rw [ed]
  refine ret1 (by first | exact .inl rfl | exact .inr rfl) rfl rfl ?_
  exact Ret_mk rfl (Ext.refl _)
/-- What Lookup returns. -/
def LkC (N : List Nd) (L : List Int) (a : Nat) (r : Value) : Prop := (∃ g, GeM g ∧ IsCf g N L ∧ r = .tuple #[.int .i64 (g a), .int .i64 (dep g a 6 (0, 0))]) ∨ ((∀ g, GeM g → ¬IsCf g N L) ∧ r = .tuple #[.int .i64 (-1), .int .i64 0])
theorem XpGood.out {g : Nat → Int} {N : List Nd} {L : List Int} {node : Nat} {p : Nat × Nat} (h : XpGood g N L node p) (hn : node < N.length) {x : Nd} (hx : N[node]? = some x) {k : Nat} (hk : k < 64) (hb : x.inner / 2 ^ k % 2 ≠ 1) : inB g p k = false := by
  have h0 := h.nd hn
  rw [hx] at h0
  cases h0
  have hbit := CfAt.bit g node p hk
  cases hc : inB g p k with
  | false => rfl
  | true => rw [hc] at hbit; exact absurd hbit hb
theorem XpGood.al {g : Nat → Int} {N : List Nd} {L : List Int} {node : Nat} {p : Nat × Nat} (h : XpGood g N L node p) : PlAl p := row_al g node p (List.mem_of_getElem? h.2.2.2)
/-- One step of an address' way. -/
theorem way_leaf {g : Nat → Int} {N : List Nd} {L : List Int} {node base i a : Nat} (hG : XpGood g N L node (base, i)) (hnode : node < N.length) {x : Nd} (hx : N[node]? = some x) (h1 : base ≤ a) (h2 : a < base + nsz i) (hd : dep g a 6 (0, 0) = i + dep g a (6 - i) (base, i)) (hb : x.inner / 2 ^ digN a i % 2 ≠ 1) :
    0 < rankN x.leaf (digN a i + 1) ∧ leafV L (lfC N node) (rankN x.leaf (digN a i + 1)) = g a ∧ dep g a 6 (0, 0) = i + 1 := by
  have hi : i ≤ 5 := hG.ok.1
  obtain ⟨hok, hl, hh⟩ := digN_at hi hG.al h1 h2
  have hk := digN_lt a i
  obtain ⟨q1, q2⟩ := hG.leaf hnode hx hk hb
  obtain ⟨q3, q4⟩ := q2 hok
  have hin := hG.out hnode hx hk hb
  refine ⟨q1, by rw [q3]; exact (q4 a hl hh).symm, ?_⟩
  rw [hd]
  obtain ⟨m, hm⟩ : ∃ m, 6 - i = m + 1 := ⟨5 - i, by omega⟩
  rw [hm, dep]
  dsimp only
  rw [hin]; rfl
theorem way_kid {g : Nat → Int} {N : List Nd} {L : List Int} {node base i a : Nat} (hG : XpGood g N L node (base, i)) (hnode : node < N.length) {x : Nd} (hx : N[node]? = some x) (h1 : base ≤ a) (h2 : a < base + nsz i) (hd : dep g a 6 (0, 0) = i + dep g a (6 - i) (base, i)) (hb : x.inner / 2 ^ digN a i % 2 = 1) (hR : Reg N L) :
    i + 1 ≤ 5 ∧ ndC N node + rankN x.inner (digN a i) < N.length ∧ XpGood g N L (ndC N node + rankN x.inner (digN a i)) (digLo i base (digN a i), i + 1) ∧ digLo i base (digN a i) ≤ a ∧ a < digLo i base (digN a i) + nsz (i + 1) ∧ dep g a 6 (0, 0) = i + 1 + dep g a (6 - (i + 1)) (digLo i base (digN a i), i + 1) := by
  have hi : i ≤ 5 := hG.ok.1
  obtain ⟨hok, hl, hh⟩ := digN_at hi hG.al h1 h2
  have hk := digN_lt a i
  obtain ⟨hin, _, hG2⟩ := hG.kid hnode hx hk hb
  have h5 := (inB_of hi hin).2.1
  refine ⟨h5, hR.kid hx hk hb, hG2, hl, hh, ?_⟩
  rw [hd]
  obtain ⟨m, hm⟩ : ∃ m, 6 - i = m + 1 := ⟨5 - i, by omega⟩
  rw [hm, dep, show 6 - (i + 1) = m by omega]
  dsimp only
  rw [hin]
  simp only [if_true]
  omega
set_option maxHeartbeats 1000000 in
theorem lookupS_v (aN aL : Option Addr) (N : List Nd) (L : List Int) (cN cL a : Nat) (w : World) (hN : Nds w aN N) (hL : Ins w aL L) (hW : NdW N) (hn : N.length ≤ 80000000000) (hl : L.length ≤ 4611686018427387904) (ha : a < 4294967296) :
    Calls Try.prog 16 #[.agg #[.slice aN N.length cN, .slice aL L.length cL], .int .u32 a] w (Gives (fun r _ => LkC N L a r) w) := by
  refine V_enter (vs := [_, _]) Try.func16 rfl Try.ntmps16 (Nat.le_of_ble_eq_true rfl) ?_
  repeat (first | refine Vx ?_ | (apply Ops_q; (case hon => exact Va); (case hd => rfl); (case hq => exact YlA)) | refine Vr ?_ | refine Vt ?_ | refine Vf ?_ | refine Vm ?_ | refine Ve ?_ | refine Vo ?_ | refine Vz ?_ | refine Vn ?_)
  (refine Ops_box (by exact Va) rfl rfl rfl ?_; intro w1 b2 n_b2; have k_b2 := n_b2.blk)
  have x1 := n_b2.ext
  clear n_b2
  repeat (first | refine Vx ?_ | (apply Ops_q; (case hon => exact Va); (case hd => rfl); (case hq => exact YlA)) | refine Vr ?_ | refine Vt ?_ | refine Vf ?_ | refine Vm ?_ | refine Ve ?_ | refine Vo ?_ | refine Vz ?_ | refine Vn ?_)
  (refine Ops_callR (by exact Va) rfl rfl (fun w_ e_ => checkS_v aN aL N L cN cL w_ (hN.ext (x1.trans e_)) (hL.ext (x1.trans e_)) hW hn hl) ?_; intro vr w2 w0_ e0_ e1_ r_vr; have e_w2 := e0_.trans e1_; have b_vr := e0_.size; clear e0_ e1_)
  obtain ⟨v, rfl, hv⟩ := r_vr
  have x2 := x1.trans e_w2
  replace k_b2 := k_b2.ext e_w2
  clear b_vr e_w2 x1
  rcases hv with ⟨rfl, g, hg, hc⟩ | ⟨rfl, hno⟩
  · have hR := hc.reg hg
    repeat (first | refine Vx ?_ | (apply Ops_q; (case hon => exact Va); (case hd => rfl); (case hq => exact YlA)) | refine Vr ?_ | refine Vt ?_ | refine Vf ?_ | refine Vm ?_ | refine Ve ?_ | refine Vo ?_ | refine Vz ?_ | refine Vn ?_)
    refine V_loop (fun s : Nat × Nat × Nat => [(15, .int .i64 s.1), (6, .int .i64 s.2.1), (2, .pointer (some ⟨b2, 0, none⟩)), (1, .int .u32 a)])
      (fun s w' => Ext w2 w' ∧ s.1 ≤ 5 ∧ s.2.1 < N.length ∧ XpGood g N L s.2.1 (s.2.2, s.1) ∧ s.2.2 ≤ a ∧ a < s.2.2 + nsz s.1 ∧ dep g a 6 (0, 0) = s.1 + dep g a (6 - s.1) (s.2.2, s.1)) (fun s => 6 - s.1) (0, 0, 0) (by repeat (first | exact trivial | refine ⟨rfl, ?_⟩))
      ⟨Ext.refl _, Nat.zero_le _, hc.ne, hc.good, Nat.zero_le _, by dsimp only; rw [nsz_zero]; omega, by dsimp only; rw [Nat.zero_add]⟩ ?_
    rintro ⟨i, node, base⟩ w3 ⟨x3, hi, hnode, hG, h1, h2, hd⟩
    dsimp only at hi hnode hG h1 h2 hd ⊢
    obtain ⟨x, hx⟩ : ∃ x, N[node]? = some x := ⟨_, List.getElem?_eq_getElem hnode⟩
    obtain ⟨hx1, hx2⟩ := hW x (List.mem_of_getElem? hx)
    obtain ⟨hxn, hxf, _⟩ := hR.at_ node x hx
    obtain ⟨adN, rfl, hcN⟩ := hN.at hx
    have hcN3 : Cells w3 (adN.add (node * 4)) [.int .u64 x.inner, .int .u64 x.leaf, .int .i64 x.nodes, .int .i64 x.first] := hcN.ext (x2.trans x3)
    have hdk := digN_lt a i
    have hb := and_one64 x.inner (digN a i) hx1
    have hlf : 0 < rankN x.leaf (digN a i + 1) → lfC N node + rankN x.leaf (digN a i + 1) - 1 < L.length := hR.leaf hx (show digN a i + 1 ≤ 64 from hdk)
    have hlfl := hR.lf_le (Nat.le_of_lt hnode)
    have hwl := way_leaf hG hnode hx h1 h2 hd
    have hwk := fun hb => way_kid hG hnode hx h1 h2 hd hb hR
    have hd6 : decide ((i : Int) < 6) = true := decide_eq_true (by omega)
    have hlk : lfC N node ≤ 4611686018427387904 := Nat.le_trans hlfl hl
    have hdig := fun (w_ : World) => digitS_v a i w_ ha hi
    have hleaf := fun (w_ : World) (h : Ins w_ aL L) => leaf_v (some adN) aL N.length L cN cL x (lfC N node) (digN a i) w_ h hx2 hxf hdk hlf hl hlk
    generalize hdd : digN a i = dg at *
    have e1 : x.nodes + (rankN x.inner dg : Int) = ((ndC N node + rankN x.inner dg : Nat) : Int) := by rw [hxn, Int.natCast_add]
    have k2 := k_b2.ext x3
    clear hdd hlf hlfl hlk
    repeat (first | refine Vx ?_ | (apply Ops_q; (case hon => exact Va); (case hd => rfl); (case hq => exact YlA)) | refine Vr ?_ | refine Vt ?_ | refine Vf ?_ | refine Vm ?_ | refine Ve ?_ | refine Vo ?_ | refine Vz ?_ | refine Vn ?_)
    refine V_yes rfl hd6 ?_
    repeat (first | refine Vx ?_ | (apply Ops_q; (case hon => exact Va); (case hd => rfl); (case hq => exact YlA)) | refine Vt ?_ | refine Vf ?_ | refine Vm ?_ | refine Ve ?_ | refine Vo ?_ | refine Vz ?_ | refine Vn ?_)
    refine V_draw1 9 (by kernel_rfl) (by kernel_rfl) rfl rfl ?_
    repeat (first | refine Vx ?_ | (apply Ops_q; (case hon => exact Va); (case hd => rfl); (case hq => exact YlA)) | refine Vr ?_ | refine Vt ?_ | refine Vf ?_ | refine Vm ?_ | refine Ve ?_ | refine Vo ?_ | refine Vz ?_ | refine Vn ?_)
    (apply Ops_q; (case hon => (exact Va)); (case hd => rfl); (case hq => exact Yl_indexS (j := node) rfl rfl (by omega)))
    repeat (first | refine Vx ?_ | (apply Ops_q; (case hon => exact Va); (case hd => rfl); (case hq => exact YlA)) | refine Vr ?_ | refine Vt ?_ | refine Vf ?_ | refine Vm ?_ | refine Ve ?_ | refine Vo ?_ | refine Vz ?_ | refine Vn ?_)
    (apply Ops_q; (case hon => (exact Va)); (case hd => rfl); (case hq => exact Yl_call rfl (fun w_ e_ => hdig w_)))
    repeat (first | refine Vx ?_ | (apply Ops_q; (case hon => exact Va); (case hd => rfl); (case hq => exact YlA)) | refine Vr ?_ | refine Vt ?_ | refine Vf ?_ | refine Vm ?_ | refine Ve ?_ | refine Vo ?_ | refine Vz ?_ | refine Vn ?_)
    (intro w4 b8 n_b8; have k_b8 := n_b8.blk)
    repeat (first | refine Vx ?_ | (apply Ops_q; (case hon => exact Va); (case hd => rfl); (case hq => exact YlA)) | refine Vr ?_ | refine Vt ?_ | refine Vf ?_ | refine Vm ?_ | refine Ve ?_ | refine Vo ?_ | refine Vz ?_ | refine Vn ?_)
    (refine Ops_store (by exact Va) rfl rfl (by assumption) (by first | rfl | exact OneAll.h) ?_; intro w5 u_w5; have k_b8 := u_w5.blk)
    have x5 : Ext w3 w5 := u_w5.below n_b8.ext n_b8.ge
    replace k2 := k2.ext x5
    clear u_w5 n_b8
    repeat (first | refine Vx ?_ | (apply Ops_q; (case hon => exact Va); (case hd => rfl); (case hq => exact YlA)) | refine Vr ?_ | refine Vt ?_ | refine Vf ?_ | refine Vm ?_ | refine Ve ?_ | refine Vo ?_ | refine Vz ?_ | refine Vn ?_)
    by_cases hbit : x.inner / 2 ^ dg % 2 = 1
    · obtain ⟨q1, q2, q3, q4, q5, q6⟩ := hwk hbit
      have hd1 : decide (bits .and .u64 ((x.inner : Int) / 2 ^ ((dg : Nat) : Int).toNat) 1 = 0) = false := by rw [hb, hbit]; rfl
      have hin : InK .i64 (x.nodes + (rankN x.inner dg : Int)) := by rw [e1]; simp only [InK]; omega
      clear hwl hb
      refine V_no rfl hd1 ?_
      repeat (first | refine Vx ?_ | (apply Ops_q; (case hon => exact Va); (case hd => rfl); (case hq => exact YlA)) | refine Vr ?_ | refine Vt ?_ | refine Vf ?_ | refine Vm ?_ | refine Ve ?_ | refine Vo ?_ | refine Vz ?_ | refine Vn ?_)
      (apply Ops_q; (case hon => (exact Va)); (case hd => rfl); (case hq => exact Yl_call rfl (fun w_ e_ => rank_v x.inner dg w_ hx1 (Nat.le_of_lt hdk))))
      repeat (first | refine Vx ?_ | (apply Ops_q; (case hon => exact Va); (case hd => rfl); (case hq => exact YlA)) | refine Vr ?_ | refine Vt ?_ | refine Vf ?_ | refine Vm ?_ | refine Ve ?_ | refine Vo ?_ | refine Vz ?_ | refine Vn ?_)
      rw [e1]
      exact ⟨(i + 1, ndC N node + rankN x.inner dg, digLo i base dg), (by repeat (first | exact trivial | refine ⟨rfl, ?_⟩)), ⟨x3.trans x5, q1, q2, q3, q4, q5, q6⟩, by simp only; omega⟩
    · obtain ⟨q1, q2, q3⟩ := hwl hbit
      have hd1 : decide (bits .and .u64 ((x.inner : Int) / 2 ^ ((dg : Nat) : Int).toNat) 1 = 0) = true := by rw [hb]; exact decide_eq_true (by omega)
      clear hwk hb
      refine V_yes rfl hd1 ?_
      repeat (first | refine Vx ?_ | (apply Ops_q; (case hon => exact Va); (case hd => rfl); (case hq => exact YlA)) | refine Vr ?_ | refine Vt ?_ | refine Vf ?_ | refine Vm ?_ | refine Ve ?_ | refine Vo ?_ | refine Vz ?_ | refine Vn ?_)
      (apply Ops_q; (case hon => (exact Va)); (case hd => rfl); (case hq => exact Yl_call rfl (fun w_ e_ => hleaf w_ (hL.ext (x2.trans (x3.trans (x5.trans e_)))))))
      rw [q2]
      repeat (first | refine Vx ?_ | (apply Ops_q; (case hon => exact Va); (case hd => rfl); (case hq => exact YlA)) | refine Vr ?_ | refine Vt ?_ | refine Vf ?_ | refine Vm ?_ | refine Ve ?_ | refine Vo ?_ | refine Vz ?_ | refine Vn ?_)
      refine ret2 (by first | exact .inl rfl | exact .inr rfl) rfl rfl rfl ?_
      exact Gives_mk (fun _ _ => .inl ⟨g, hg, hc, by rw [q3, Int.natCast_add]; rfl⟩) (x2.trans (x3.trans x5))
  · have hd : (!decide ((if N.length = 0 then (3 : Int) else 1) = 0)) = true := by split <;> rfl
    repeat (first | refine Vx ?_ | (apply Ops_q; (case hon => exact Va); (case hd => rfl); (case hq => exact YlA)) | refine Vr ?_ | refine Vt ?_ | refine Vf ?_ | refine Vm ?_ | refine Ve ?_ | refine Vo ?_ | refine Vz ?_ | refine Vn ?_)
    refine V_yes rfl hd ?_
    repeat (first | refine Vx ?_ | (apply Ops_q; (case hon => exact Va); (case hd => rfl); (case hq => exact YlA)) | refine Vr ?_ | refine Vt ?_ | refine Vf ?_ | refine Vm ?_ | refine Ve ?_ | refine Vo ?_ | refine Vz ?_ | refine Vn ?_)
    refine ret2 (by first | exact .inl rfl | exact .inr rfl) rfl rfl rfl ?_
    exact Gives_mk (fun _ _ => .inr ⟨hno, rfl⟩) x2
end Go.Proofs.Ytjpnaofoeeegeaa


/-
  More rules of the walk: make of a slice with one cell an element; a slice of one's own made shorter.
  No conditions beyond those that each rule states.
-/
namespace Go.Proofs.Ytjpnaofoeeegeaa
open Go.RowKit

section
variable {P : Program} {N : Fr} {ops : Array Oper} {K : Env → World → Prop} {m : Env} {w : World} {rest : List Oper} {ty : TypeId} {pos : String} {after : Array Edge} {g : Option (Nat × Bool)}
theorem flatten_rep (z : Value) : ∀ n : Nat, (List.replicate n [z]).flatten = List.replicate n z
  | 0 => rfl
  | n + 1 => by rw [List.replicate_succ, List.flatten_cons, flatten_rep z n]; rfl
theorem Ops_make1 {dst : Nat} {t e : TypeId} {x y : Operand} {k k' : IntKind} {n b0 : Nat} {z : Value} [ht : TSlice P t e] [hs : TSize P e 1 b0] [hz : TZero P e z [z]]
    (hon : On N ops m ⟨some dst, .makeSlice t x y, ty, pos, after, g⟩) (hd : Nat.ble (dst + 1) N.n = true) (hx : ev m x = some (.int k (n : Int))) (hy : ev m y = some (.int k' (n : Int))) (hb : n * b0 ≤ 140737488355328) (h63 : n ≤ maxLen)
    (h : ∀ w1 b, Ext w w1 → w.heap.size ≤ b → Own w1 w.heap.size e 1 (.slice (some ⟨b, 0, none⟩) n n) (List.replicate n [z]) → Ops P N ops false K rest ((dst, .slice (some ⟨b, 0, none⟩) n n) :: m) w1) :
    Ops P N ops false K (⟨some dst, .makeSlice t x y, ty, pos, after, g⟩ :: rest) m w := by
  refine ⟨fun a w' ha hw => ?_⟩
  unfold wpList
  rw [if_pos (hon.out a ha)]
  refine .inl ?_
  obtain ⟨inf, hi, hsz⟩ := Option.map_eq_some_iff.1 hs.h
  simp only [Prod.mk.injEq] at hsz
  obtain ⟨inf', hi', hz'⟩ := Option.bind_eq_some_iff.1 hz.h
  obtain rfl := Option.some.inj (hi.symm.trans hi')
  have h63' : (n : Int) ≤ 9223372036854775807 := by
    have h := h63
    simp [maxLen] at h
    omega
  have hb' : (inf.bytes : Int) * (n : Int) ≤ 281474976710656 := by
    rw [hsz.2, ← Int.natCast_mul, Nat.mul_comm]; omega
  have hmc : madeCells z.cells (n * 1) = (List.replicate n z).toArray := by
    rw [hz.cells, Nat.mul_one]
    apply Array.ext_getElem?
    intro j
    by_cases hj : j < n
    · simp [madeCells, hj, Nat.mod_one]
    · simp [madeCells, hj]
  have hr : (execOp a.eval ⟨some dst, .makeSlice t x y, ty, pos, after, g⟩).run P w' = .ok (.value (.slice (some ⟨w'.heap.size, 0, none⟩) n n)) (w'.alloc (.cells (List.replicate n z).toArray e)) := by
    have := run_make (P := P) w' t e inf z ht.h hi hz' k k' n n (by omega) (Int.le_refl _) hb' h63'
    simp only [Int.toNat_natCast, hsz.1] at this
    rw [hmc] at this
    simp [execOp, ha.ev hx, ha.ev hy, this]
  unfold Oper.wp
  rw [hr]
  have hn := New.of hw e (List.replicate n z)
  refine (h _ _ hn.ext hn.ge ⟨⟨?_, .inr ⟨w'.heap.size, n, _, by rw [List.length_replicate], hn.ge, hn.blk, ?_, h63, ?_, ?_⟩⟩, fun u hu => ?_⟩).out _ _ (ha.put (Nat.le_of_ble_eq_true hd) _) (Ext.refl _)
  · rw [flatten_rep, List.length_replicate, List.length_replicate, Nat.mul_one]
  · rw [List.length_replicate]; exact Nat.le_refl _
  · simp
  · rw [flatten_rep]; simp
  · rw [(List.mem_replicate.1 hu).2]; rfl
end
end Go.Proofs.Ytjpnaofoeeegeaa


/-
  Stride tables (layer 8): the reference's depths, formed, Check, leaf, Lookup.
  Conditions: the lists are not too long for a machine; the words are words of 64 bits.
-/
namespace Go.Proofs.Ytjpnaofoeeegeaa
open Go.RowKit

/-! ### Lists of numbers of one's own -/
def nC (d : Nat) : List Value := [.int .i64 d]
structure DatN (w : World) (base g n : Nat) (L : List Nat) : Prop where
  own : Own w base 3 1 (.slice (some ⟨g, 0, none⟩) n n) (L.map nC)
  len : L.length = n
theorem DatN.ext {w w1 : World} {base g n : Nat} {L : List Nat} (h : DatN w base g n L) (he : Ext w w1) : DatN w1 base g n L := ⟨h.own.ext he, h.len⟩
theorem DatN.at {w : World} {base g n : Nat} {L : List Nat} (h : DatN w base g n L) {k x : Nat} (hx : L[k]? = some x) : w.cell? ((⟨g, 0, none⟩ : Addr).add (k * 1)) = some (.int .i64 x) := by
  obtain ⟨ao, c, hv, hA⟩ := h.own.slice
  obtain ⟨ad, h1, h2⟩ := hA k (nC x) (by rw [List.getElem?_map, hx]; rfl)
  cases hv
  cases h1
  have := h2 0 _ rfl
  rw [add_add, Nat.add_zero] at this; exact this
theorem set_nC (L : List Nat) (i v x : Nat) : (L.map nC).set i ((nC v).set 0 (.int .i64 x)) = (L.set i x).map nC := by rw [List.map_set]; rfl
section
variable {P : Program} {N : Fr} {ops : Array Oper} {K : Env → World → Prop} {m : Env} {w : World} {rest : List Oper} {ty : TypeId} {pos : String} {after : Array Edge} {gd : Option (Nat × Bool)}
theorem Ops_storeDatN {x y : Operand} {base b0 g n i v : Nat} {p : Addr} {L : List Nat} [hs : TSize P 3 1 b0] (hon : On N ops m ⟨none, .store 3 x y, ty, pos, after, gd⟩)
    (hx : ev m x = some (.pointer (some p))) (hy : ev m y = some (.int .i64 v)) (hp : p = (⟨g, 0, none⟩ : Addr).add (i * 1)) (hD : DatN w base g n L) (hi : i < n)
    (h : ∀ w1, DatN w1 base g n (L.set i v) → w.grownBy w1 (some g) → Ops P N ops false K rest m w1) : Ops P N ops false K (⟨none, .store 3 x y, ty, pos, after, gd⟩ :: rest) m w := by
  obtain ⟨o, hl⟩ := hD
  obtain ⟨z, hz⟩ : ∃ z, L[i]? = some z := ⟨_, List.getElem?_eq_getElem (by omega)⟩
  have o' : Own w base 3 1 (.slice (some ⟨g, 0, none⟩) (L.map nC).length n) (L.map nC) := by rw [List.length_map, hl]; exact o
  refine Ops_storeOwn (i := i) (f := 0) (xi := nC z) hon hx hy (by rw [hp, add_blk, Nat.zero_add, Nat.add_zero]) o' (by rw [List.getElem?_map, hz]; rfl) (by omega) rfl (fun w1 o1 g1 => h w1 ⟨?_, by rw [List.length_set]; exact hl⟩ g1)
  rw [set_nC, List.length_map, hl] at o1
  exact o1
end
/-! ### depths -/
/-- The numbers of a table are as they must be. -/
structure NumOk (N : List Nd) (L : List Int) : Prop where
  at_ : ∀ i n, N[i]? = some n → n.nodes = (ndC N i : Int) ∧ n.first = (lfC N i : Int) ∧ i < ndC N i
  nd : ndC N N.length = N.length
  lf : lfC N N.length = L.length
theorem dpL_le (N : List Nd) : ∀ i, ∀ d ∈ dpL N i, d ≤ i
  | 0, d, hd => by rw [List.mem_singleton.1 hd]; exact Nat.le_refl _
  | i + 1, d, hd => by
    rw [dpL] at hd
    split at hd
    · rcases List.mem_append.1 hd with hd | hd
      · have := dpL_le N i d hd; omega
      · rw [(List.mem_replicate.1 hd).2, List.getD_eq_getElem?_getD]
        cases h : (dpL N i)[i]? with
        | none => exact Nat.succ_le_succ (Nat.zero_le _)
        | some e => have := dpL_le N i e (List.mem_of_getElem? h); simp; omega
    · have := dpL_le N i d hd; omega
def DpR (N : List Nd) (L : List Int) (w0 : World) (r : Value) (w' : World) : Prop :=
  ∃ (v : Value) (ok : Bool), r = .tuple #[v, .bool ok] ∧ (ok = true ↔ NumOk N L) ∧ (ok = true → Own w' w0.heap.size 3 1 v ((dpL N N.length).map nC))
theorem bool_false {b : Bool} {P : Prop} (h : b = true ↔ P) (hn : ¬P) : b = false := by
  cases b with
  | false => rfl
  | true => exact absurd (h.1 rfl) hn
set_option maxHeartbeats 2000000 in
theorem depths_v (aN aL : Option Addr) (N : List Nd) (L : List Int) (cN cL : Nat) (w : World) (hN : Nds w aN N) (hW : NdW N) (hn : N.length ≤ 1000000) :
    Calls Try.prog 63 #[.agg #[.slice aN N.length cN, .slice aL L.length cL]] w (Gives (DpR N L w) w) := by
  refine V_enter (vs := [_]) Try.func63 rfl Try.ntmps63 (Nat.le_of_ble_eq_true rfl) ?_
  repeat (first | refine Vx ?_ | (apply Ops_q; (case hon => exact Va); (case hd => rfl); (case hq => exact YlA)) | refine Vr ?_ | refine Vt ?_ | refine Vf ?_ | refine Vm ?_ | refine Ve ?_ | refine Vo ?_ | refine Vz ?_ | refine Vn ?_)
  (refine Ops_box (by exact Va) rfl rfl rfl ?_; intro w1 b1 n_b1; have k_b1 := n_b1.blk)
  have x1 := n_b1.ext
  clear n_b1
  repeat (first | refine Vx ?_ | (apply Ops_q; (case hon => exact Va); (case hd => rfl); (case hq => exact YlA)) | refine Vr ?_ | refine Vt ?_ | refine Vf ?_ | refine Vm ?_ | refine Ve ?_ | refine Vo ?_ | refine Vz ?_ | refine Vn ?_)
  refine Ops_make1 (by exact Va) rfl rfl rfl (by omega) (by unfold maxLen; omega) ?_
  intro w2 g x2 hg o2
  have D2 : DatN w2 w.heap.size g N.length (List.replicate N.length 0) := ⟨by rw [List.map_replicate]; exact o2.mono x1.size, by rw [List.length_replicate]⟩
  have hgw : w.heap.size ≤ g := Nat.le_trans x1.size hg
  have hbg : b1 ≠ g := Nat.ne_of_lt (Nat.lt_of_lt_of_le k_b1.lt hg)
  replace k_b1 := k_b1.ext x2
  replace x2 := x1.trans x2
  clear o2 hg x1
  repeat (first | refine Vx ?_ | (apply Ops_q; (case hon => exact Va); (case hd => rfl); (case hq => exact YlA)) | refine Vr ?_ | refine Vt ?_ | refine Vf ?_ | refine Vm ?_ | refine Ve ?_ | refine Vo ?_ | refine Vz ?_ | refine Vn ?_)
  refine V_loop (fun s : Nat × List Nat => [(17, .int .i64 s.1), (16, .int .i64 N.length), (15, .slice aN N.length cN), (4, .slice (some ⟨g, 0, none⟩) N.length N.length), (5, .int .i64 (ndC N s.1)), (6, .int .i64 (lfC N s.1)), (1, .pointer (some ⟨b1, 0, none⟩))])
    (fun s w' => s.1 ≤ N.length ∧ Ext w w' ∧ Blk w' b1 32 [.slice aN N.length cN, .slice aL L.length cL] ∧ DatN w' w.heap.size g N.length s.2 ∧ (∀ j, j < N.length → j < ndC N s.1 → s.2[j]? = (dpL N s.1)[j]?) ∧
      ∀ i n, i < s.1 → N[i]? = some n → n.nodes = (ndC N i : Int) ∧ n.first = (lfC N i : Int) ∧ i < ndC N i) (fun s => N.length - s.1) (0, List.replicate N.length 0) (by repeat (first | exact trivial | refine ⟨rfl, ?_⟩)) ⟨Nat.zero_le _, x2, k_b1, D2, fun j h1 h2 => ?_, fun i n h => absurd h (Nat.not_lt_zero i)⟩ ?_
  · have h0 : j = 0 := by simp [ndC] at h2; exact h2
    subst h0
    dsimp only
    rw [List.getElem?_replicate, if_pos h1]; rfl
  clear D2 k_b1 x2
  rintro ⟨k, A⟩ w3 ⟨hk, x3, kb1, D3, hA, hs⟩
  dsimp only at hk D3 hA hs ⊢
  repeat (first | refine Vx ?_ | (apply Ops_q; (case hon => exact Va); (case hd => rfl); (case hq => exact YlA)) | refine Vr ?_ | refine Vt ?_ | refine Vf ?_ | refine Vm ?_ | refine Ve ?_ | refine Vo ?_ | refine Vz ?_ | refine Vn ?_)
  refine V_cond rfl (fun hgd => ?_) (fun hgd => ?_)
  · have hkl : k < N.length := by have := of_decide_eq_true hgd; omega
    clear hgd
    obtain ⟨x, hx⟩ : ∃ x, N[k]? = some x := ⟨_, List.getElem?_eq_getElem hkl⟩
    obtain ⟨ad, rfl, hc⟩ := hN.at hx
    obtain ⟨hx1, hx2⟩ := hW x (List.mem_of_getElem? hx)
    have hc3 : Cells w3 (ad.add (k * 4)) [.int .u64 x.inner, .int .u64 x.leaf, .int .i64 x.nodes, .int .i64 x.first] := hc.ext x3
    have q1 := ndC_le N k
    have q2 := lfC_le N k
    have q3 := rankN_le x.inner 64
    have q4 := rankN_le x.leaf 64
    have s1 := ndC_step hx
    have s2 := lfC_step hx
    have e1 : (ndC N k : Int) + (rankN x.inner 64 : Int) = ((ndC N (k + 1) : Nat) : Int) := by rw [s1, Int.natCast_add]
    have e2 : (lfC N k : Int) + (rankN x.leaf 64 : Int) = ((lfC N (k + 1) : Nat) : Int) := by rw [s2, Int.natCast_add]
    repeat (first | refine Vx ?_ | (apply Ops_q; (case hon => exact Va); (case hd => rfl); (case hq => exact YlA)) | refine Vr ?_ | refine Vt ?_ | refine Vf ?_ | refine Vm ?_ | refine Ve ?_ | refine Vo ?_ | refine Vz ?_ | refine Vn ?_)
    (apply Ops_q; (case hon => (exact Va)); (case hd => rfl); (case hq => exact Yl_indexS (j := k) rfl rfl (by omega)))
    repeat (first | refine Vx ?_ | (apply Ops_q; (case hon => exact Va); (case hd => rfl); (case hq => exact YlA)) | refine Vr ?_ | refine Vt ?_ | refine Vf ?_ | refine Vm ?_ | refine Ve ?_ | refine Vo ?_ | refine Vz ?_ | refine Vn ?_)
    (refine Ops_alloc (by exact Va) rfl ?_; intro w4 b8 n_b8; have k_b8 := n_b8.blk)
    have hb8 : w.heap.size ≤ b8 := Nat.le_trans x3.size n_b8.ge
    have x4 := x3.trans n_b8.ext
    have D4 := D3.ext n_b8.ext
    have n8g : b8 ≠ g := fun e => by have h1 : g < w3.heap.size := D3.own.lt rfl; have := n_b8.ge; omega
    have n18 : b1 ≠ b8 := Nat.ne_of_lt (Nat.lt_of_lt_of_le kb1.lt n_b8.ge)
    replace kb1 := kb1.ext n_b8.ext
    clear n_b8 x3 D3 hc3
    repeat (first | refine Vx ?_ | (apply Ops_q; (case hon => exact Va); (case hd => rfl); (case hq => exact YlA)) | refine Vr ?_ | refine Vt ?_ | refine Vf ?_ | refine Vm ?_ | refine Ve ?_ | refine Vo ?_ | refine Vz ?_ | refine Vn ?_)
    (refine Ops_store (by exact Va) rfl rfl (by assumption) (by first | rfl | exact OneAll.h) ?_; intro w5 u_w5; have k_b8 := u_w5.blk)
    have x5 := u_w5.below x4 hb8
    have D5 : DatN w5 w.heap.size g N.length A := ⟨D4.own.upd u_w5 (fun e => n8g (by cases e; rfl)), D4.len⟩
    replace kb1 := u_w5.keep kb1 n18
    clear u_w5 x4 D4
    have hbad : ¬(x.nodes = (ndC N k : Int) ∧ x.first = (lfC N k : Int) ∧ k < ndC N k) → ∀ w', Ext w5 w' → DpR N L w (.tuple #[.slice none 0 0, .bool false]) w' := fun hno _ _ => ⟨_, false, rfl, ⟨(fun h => nomatch h), fun h => absurd (h.at_ k x hx) hno⟩, (fun h => nomatch h)⟩
    repeat (first | refine Vx ?_ | (apply Ops_q; (case hon => exact Va); (case hd => rfl); (case hq => exact YlA)) | refine Vr ?_ | refine Vt ?_ | refine Vf ?_ | refine Vm ?_ | refine Ve ?_ | refine Vo ?_ | refine Vz ?_ | refine Vn ?_)
    by_cases t1 : x.nodes = (ndC N k : Int)
    · have d1 : (!decide (x.nodes = (ndC N k : Int))) = false := by rw [decide_eq_true t1]; rfl
      refine Ops_know rfl rfl d1 ?_
      repeat (first | refine Vx ?_ | (apply Ops_q; (case hon => exact Va); (case hd => rfl); (case hq => exact YlA)) | refine Vr ?_ | refine Vt ?_ | refine Vf ?_ | refine Vm ?_ | refine Ve ?_ | refine Vo ?_ | refine Vz ?_ | refine Vn ?_)
      by_cases t2 : x.first = (lfC N k : Int)
      · have d2 : (!decide (x.first = (lfC N k : Int))) = false := by rw [decide_eq_true t2]; rfl
        refine Ops_know rfl rfl d2 ?_
        repeat (first | refine Vx ?_ | (apply Ops_q; (case hon => exact Va); (case hd => rfl); (case hq => exact YlA)) | refine Vr ?_ | refine Vt ?_ | refine Vf ?_ | refine Vm ?_ | refine Ve ?_ | refine Vo ?_ | refine Vz ?_ | refine Vn ?_)
        by_cases t3 : k < ndC N k
        · have d3 : decide ((ndC N k : Int) ≤ (k : Int)) = false := decide_eq_false (by omega)
          refine V_no rfl d3 ?_
          obtain ⟨dk, hdk⟩ : ∃ d, (dpL N k)[k]? = some d := ⟨_, List.getElem?_eq_getElem (by rw [dpL_len]; exact t3)⟩
          have hdl := dpL_le N k dk (List.mem_of_getElem? hdk)
          have hpre : ∀ j, j < ndC N k → (dpL N (k + 1))[j]? = (dpL N k)[j]? := fun j hj => by rw [dpL_step hx, List.getElem?_append_left (by rw [dpL_len]; exact hj)]
          have hnew : ∀ j, ndC N k ≤ j → j < ndC N k + rankN x.inner 64 → (dpL N (k + 1))[j]? = some (dk + 1) := fun j h1 h2 => by
            rw [dpL_step hx, List.getElem?_append_right (by rw [dpL_len]; exact h1), dpL_len, List.getElem?_replicate, if_pos (by omega), List.getD_eq_getElem?_getD, hdk]; rfl
          clear d1 d2 d3 hbad
          repeat (first | refine Vx ?_ | (apply Ops_q; (case hon => exact Va); (case hd => rfl); (case hq => exact YlA)) | refine Vr ?_ | refine Vt ?_ | refine Vf ?_ | refine Vm ?_ | refine Ve ?_ | refine Vo ?_ | refine Vz ?_ | refine Vn ?_)
          refine V_loop (fun s : Nat × List Nat => [(9, .int .i64 s.1), (8, .pointer (some ⟨b8, 0, none⟩)), (7, .int .i64 k), (17, .int .i64 k), (16, .int .i64 N.length), (15, .slice (some ad) N.length cN), (4, .slice (some ⟨g, 0, none⟩) N.length N.length), (5, .int .i64 (ndC N k)), (6, .int .i64 (lfC N k)), (1, .pointer (some ⟨b1, 0, none⟩))])
            (fun s w' => s.1 ≤ rankN x.inner 64 ∧ Ext w w' ∧ Blk w' b1 32 [.slice (some ad) N.length cN, .slice aL L.length cL] ∧ Blk w' b8 73 [.int .u64 x.inner, .int .u64 x.leaf, .int .i64 x.nodes, .int .i64 x.first] ∧ DatN w' w.heap.size g N.length s.2 ∧
              (∀ j, j < N.length → j < ndC N k + s.1 → s.2[j]? = (dpL N (k + 1))[j]?)) (fun s => rankN x.inner 64 - s.1) (0, A) (by repeat (first | exact trivial | refine ⟨rfl, ?_⟩)) ⟨Nat.zero_le _, x5, kb1, k_b8, D5, fun j h1 h2 => by dsimp only at h2 ⊢; rw [hA j h1 (by omega), hpre j (by omega)]⟩ ?_
          clear x5 kb1 k_b8 D5 hA
          rintro ⟨q, A⟩ w6 ⟨hq, x6, kb1, kb8, D6, hA⟩
          dsimp only at hq D6 hA ⊢
          repeat (first | refine Vx ?_ | (apply Ops_q; (case hon => exact Va); (case hd => rfl); (case hq => exact YlA)) | refine Vr ?_ | refine Vt ?_ | refine Vf ?_ | refine Vm ?_ | refine Ve ?_ | refine Vo ?_ | refine Vz ?_ | refine Vn ?_)
          (apply Ops_q; (case hon => (exact Va)); (case hd => rfl); (case hq => exact Yl_call rfl (fun w_ e_ => ronesR_v x.inner 64 w_ hx1 (Nat.le_refl _))))
          repeat (first | refine Vx ?_ | (apply Ops_q; (case hon => exact Va); (case hd => rfl); (case hq => exact YlA)) | refine Vr ?_ | refine Vt ?_ | refine Vf ?_ | refine Vm ?_ | refine Ve ?_ | refine Vo ?_ | refine Vz ?_ | refine Vn ?_)
          refine V_cond rfl (fun hgd => ?_) (fun hgd => ?_)
          · have hql : q < rankN x.inner 64 := by have := of_decide_eq_true hgd; omega
            clear hgd
            have eq1 : (ndC N k : Int) + (q : Int) = ((ndC N k + q : Nat) : Int) := by omega
            repeat (first | refine Vx ?_ | (apply Ops_q; (case hon => exact Va); (case hd => rfl); (case hq => exact YlA)) | refine Vr ?_ | refine Vt ?_ | refine Vf ?_ | refine Vm ?_ | refine Ve ?_ | refine Vo ?_ | refine Vz ?_ | refine Vn ?_)
            by_cases t4 : ndC N k + q < N.length
            · have d4 : decide ((ndC N k : Int) + (q : Int) < (N.length : Int)) = true := decide_eq_true (by omega)
              have hAk : A[k]? = some dk := by rw [hA k hkl (by omega), hpre k t3]; exact hdk
              have hcA := D6.at hAk
              have ed : (dk : Int) + 1 = ((dk + 1 : Nat) : Int) := by omega
              have hi1 : InK .i64 ((dk : Int) + 1) := by simp only [InK]; omega
              refine V_yes rfl d4 ?_
              repeat (first | refine Vx ?_ | (apply Ops_q; (case hon => exact Va); (case hd => rfl); (case hq => exact YlA)) | refine Vr ?_ | refine Vt ?_ | refine Vf ?_ | refine Vm ?_ | refine Ve ?_ | refine Vo ?_ | refine Vz ?_ | refine Vn ?_)
              (apply Ops_q; (case hon => (exact Va)); (case hd => rfl); (case hq => exact Yl_indexS (j := k) rfl rfl (by omega)))
              repeat (first | refine Vx ?_ | (apply Ops_q; (case hon => exact Va); (case hd => rfl); (case hq => exact YlA)) | refine Vr ?_ | refine Vt ?_ | refine Vf ?_ | refine Vm ?_ | refine Ve ?_ | refine Vo ?_ | refine Vz ?_ | refine Vn ?_)
              rw [eq1, ed]
              (apply Ops_q; (case hon => (exact Va)); (case hd => rfl); (case hq => exact Yl_indexS (j := ndC N k + q) rfl rfl (by omega)))
              repeat (first | refine Vx ?_ | (apply Ops_q; (case hon => exact Va); (case hd => rfl); (case hq => exact YlA)) | refine Vr ?_ | refine Vt ?_ | refine Vf ?_ | refine Vm ?_ | refine Ve ?_ | refine Vo ?_ | refine Vz ?_ | refine Vn ?_)
              refine Ops_storeDatN (by exact Va) rfl rfl rfl D6 t4 ?_
              intro w7 D7 g7
              have x7 := grow_below x6 g7 (fun c hc => by cases hc; exact hgw)
              replace kb1 := grow_blk g7 kb1 (fun e => hbg (by cases e; rfl))
              replace kb8 := grow_blk g7 kb8 (fun e => n8g (by cases e; rfl))
              repeat (first | refine Vx ?_ | (apply Ops_q; (case hon => exact Va); (case hd => rfl); (case hq => exact YlA)) | refine Vr ?_ | refine Vt ?_ | refine Vf ?_ | refine Vm ?_ | refine Ve ?_ | refine Vo ?_ | refine Vz ?_ | refine Vn ?_)
              refine ⟨(q + 1, _), (by repeat (first | exact trivial | refine ⟨rfl, ?_⟩)), ⟨hql, x7, kb1, kb8, D7, fun j h1 h2 => ?_⟩, by simp only; omega⟩
              dsimp only at h2 ⊢
              rw [List.getElem?_set, D6.len, if_pos t4]
              by_cases hj : ndC N k + q = j
              · rw [if_pos hj, hnew j (by omega) (by omega)]
              · rw [if_neg hj]; exact hA j h1 (by omega)
            · have d4 : decide ((ndC N k : Int) + (q : Int) < (N.length : Int)) = false := decide_eq_false (by omega)
              refine V_no rfl d4 ?_
              repeat (first | refine Vx ?_ | (apply Ops_q; (case hon => exact Va); (case hd => rfl); (case hq => exact YlA)) | refine Vr ?_ | refine Vt ?_ | refine Vf ?_ | refine Vm ?_ | refine Ve ?_ | refine Vo ?_ | refine Vz ?_ | refine Vn ?_)
              exact ⟨(q + 1, A), (by repeat (first | exact trivial | refine ⟨rfl, ?_⟩)), ⟨hql, x6, kb1, kb8, D6, fun j h1 h2 => hA j h1 (by dsimp only at h2; omega)⟩, by simp only; omega⟩
          · obtain rfl : q = rankN x.inner 64 := by have := of_decide_eq_false hgd; omega
            clear hgd
            repeat (first | refine Vx ?_ | (apply Ops_q; (case hon => exact Va); (case hd => rfl); (case hq => exact YlA)) | refine Vr ?_ | refine Vt ?_ | refine Vf ?_ | refine Vm ?_ | refine Ve ?_ | refine Vo ?_ | refine Vz ?_ | refine Vn ?_)
            (apply Ops_q; (case hon => (exact Va)); (case hd => rfl); (case hq => exact Yl_call rfl (fun w_ e_ => ronesR_v x.inner 64 w_ hx1 (Nat.le_refl _))))
            repeat (first | refine Vx ?_ | (apply Ops_q; (case hon => exact Va); (case hd => rfl); (case hq => exact YlA)) | refine Vr ?_ | refine Vt ?_ | refine Vf ?_ | refine Vm ?_ | refine Ve ?_ | refine Vo ?_ | refine Vz ?_ | refine Vn ?_)
            rw [e1]
            (apply Ops_q; (case hon => (exact Va)); (case hd => rfl); (case hq => exact Yl_call rfl (fun w_ e_ => ronesR_v x.leaf 64 w_ hx2 (Nat.le_refl _))))
            repeat (first | refine Vx ?_ | (apply Ops_q; (case hon => exact Va); (case hd => rfl); (case hq => exact YlA)) | refine Vr ?_ | refine Vt ?_ | refine Vf ?_ | refine Vm ?_ | refine Ve ?_ | refine Vo ?_ | refine Vz ?_ | refine Vn ?_)
            rw [e2]
            refine ⟨(k + 1, A), (by repeat (first | exact trivial | refine ⟨rfl, ?_⟩)), ⟨hkl, x6, kb1, D6, fun j h1 h2 => hA j h1 (by dsimp only at h2; omega), fun i n hi hni => ?_⟩, by simp only; omega⟩
            rcases Nat.lt_or_ge i k with h1 | h1
            · exact hs i n h1 hni
            · obtain rfl : i = k := by omega
              rw [hx] at hni; cases hni
              exact ⟨t1, t2, t3⟩
        · have d3 : decide ((ndC N k : Int) ≤ (k : Int)) = true := decide_eq_true (by omega)
          refine V_yes rfl d3 ?_
          repeat (first | refine Vx ?_ | (apply Ops_q; (case hon => exact Va); (case hd => rfl); (case hq => exact YlA)) | refine Vr ?_ | refine Vt ?_ | refine Vf ?_ | refine Vm ?_ | refine Ve ?_ | refine Vo ?_ | refine Vz ?_ | refine Vn ?_)
          refine ret2 (by first | exact .inl rfl | exact .inr rfl) rfl rfl rfl ?_
          exact Gives_mk (hbad (fun h => t3 h.2.2)) x5
      · have d2 : (!decide (x.first = (lfC N k : Int))) = true := by rw [decide_eq_false t2]; rfl
        refine Ops_know rfl rfl d2 ?_
        repeat (first | refine Vx ?_ | (apply Ops_q; (case hon => exact Va); (case hd => rfl); (case hq => exact YlA)) | refine Vr ?_ | refine Vt ?_ | refine Vf ?_ | refine Vm ?_ | refine Ve ?_ | refine Vo ?_ | refine Vz ?_ | refine Vn ?_)
        refine ret2 (by first | exact .inl rfl | exact .inr rfl) rfl rfl rfl ?_
        exact Gives_mk (hbad (fun h => t2 h.2.1)) x5
    · have d1 : (!decide (x.nodes = (ndC N k : Int))) = true := by rw [decide_eq_false t1]; rfl
      refine Ops_know rfl rfl d1 ?_
      repeat (first | refine Vx ?_ | (apply Ops_q; (case hon => exact Va); (case hd => rfl); (case hq => exact YlA)) | refine Vr ?_ | refine Vt ?_ | refine Vf ?_ | refine Vm ?_ | refine Ve ?_ | refine Vo ?_ | refine Vz ?_ | refine Vn ?_)
      refine ret2 (by first | exact .inl rfl | exact .inr rfl) rfl rfl rfl ?_
      exact Gives_mk (hbad (fun h => t1 h.1)) x5
  · obtain rfl : k = N.length := by have := of_decide_eq_false hgd; omega
    clear hgd
    have hat : ∀ i x, N[i]? = some x → x.nodes = (ndC N i : Int) ∧ x.first = (lfC N i : Int) ∧ i < ndC N i := fun i x h => hs i x (List.getElem?_eq_some_iff.1 h).1 h
    repeat (first | refine Vx ?_ | (apply Ops_q; (case hon => exact Va); (case hd => rfl); (case hq => exact YlA)) | refine Vr ?_ | refine Vt ?_ | refine Vf ?_ | refine Vm ?_ | refine Ve ?_ | refine Vo ?_ | refine Vz ?_ | refine Vn ?_)
    by_cases t1 : ndC N N.length = N.length
    · have d1 : decide ((ndC N N.length : Int) = (N.length : Int)) = true := decide_eq_true (by omega)
      refine Ops_know rfl rfl d1 ?_
      repeat (first | refine Vx ?_ | (apply Ops_q; (case hon => exact Va); (case hd => rfl); (case hq => exact YlA)) | refine Vr ?_ | refine Vt ?_ | refine Vf ?_ | refine Vm ?_ | refine Ve ?_ | refine Vo ?_ | refine Vz ?_ | refine Vn ?_)
      refine ret2 (by first | exact .inl rfl | exact .inr rfl) rfl rfl rfl ?_
      refine Gives_mk (fun w' he => ⟨_, _, rfl, ?_, fun _ => ?_⟩) x3
      · rw [decide_eq_true_eq]
        exact ⟨fun h => ⟨hat, t1, by omega⟩, fun h => by have := h.lf; omega⟩
      · have hAe : A = dpL N N.length := by
          refine List.ext_getElem? fun j => ?_
          rcases Nat.lt_or_ge j N.length with h1 | h1
          · exact hA j h1 (by omega)
          · rw [List.getElem?_eq_none (by rw [D3.len]; exact h1), List.getElem?_eq_none (by rw [dpL_len]; omega)]
        rw [← hAe]
        exact D3.own.ext he
    · have d1 : decide ((ndC N N.length : Int) = (N.length : Int)) = false := decide_eq_false (by omega)
      refine Ops_know rfl rfl d1 ?_
      repeat (first | refine Vx ?_ | (apply Ops_q; (case hon => exact Va); (case hd => rfl); (case hq => exact YlA)) | refine Vr ?_ | refine Vt ?_ | refine Vf ?_ | refine Vm ?_ | refine Ve ?_ | refine Vo ?_ | refine Vz ?_ | refine Vn ?_)
      refine ret2 (by first | exact .inl rfl | exact .inr rfl) rfl rfl rfl ?_
      exact Gives_mk (fun _ _ => ⟨_, false, rfl, ⟨(fun h => nomatch h), fun h => absurd h.nd t1⟩, (fun h => nomatch h)⟩) x3
end Go.Proofs.Ytjpnaofoeeegeaa


/-
  Stride tables (layer 8): the reference's formed, Check, leaf, Lookup.
  Conditions: the lists are not too long for a machine; the words are words of 64 bits.
-/
namespace Go.Proofs.Ytjpnaofoeeegeaa
open Go.RowKit

/-! ### Bits -/
theorem mask_bits : ∀ k, k < 64 → (281479271743489 : Nat).testBit k = decide (k % 16 = 0) := by decide
theorem andNot_zero (x : Nat) : bits .andNot .u64 (x : Int) 281479271743489 = 0 ↔ ∀ k, k < 64 → x / 2 ^ k % 2 = 1 → k % 16 = 0 := by
  have e : bits .andNot .u64 (x : Int) 281479271743489 = (((BitVec.ofNat 64 x) &&& ~~~(BitVec.ofNat 64 281479271743489)).toNat : Int) := by
    show IntKind.u64.wrap ((BitVec.ofInt 64 (x : Int) &&& ~~~BitVec.ofInt 64 281479271743489).toNat : Int) = _
    have h1 : BitVec.ofInt 64 (x : Int) = BitVec.ofNat 64 x := by simp
    have h2 : BitVec.ofInt 64 281479271743489 = BitVec.ofNat 64 281479271743489 := by decide
    rw [h1, h2, IntKind.wrap_u64]
    have := (BitVec.ofNat 64 x &&& ~~~BitVec.ofNat 64 281479271743489).isLt
    omega
  rw [e]
  have hb : ∀ k, k < 64 → ((BitVec.ofNat 64 x) &&& ~~~(BitVec.ofNat 64 281479271743489)).getLsbD k = (x.testBit k && !decide (k % 16 = 0)) := fun k hk => by
    rw [BitVec.getLsbD_and, BitVec.getLsbD_not, BitVec.getLsbD_ofNat, BitVec.getLsbD_ofNat, mask_bits k hk]
    simp [hk]
  constructor
  · intro h k hk hx1
    have hz : ((BitVec.ofNat 64 x) &&& ~~~(BitVec.ofNat 64 281479271743489)).toNat = 0 := by omega
    have h3 := hb k hk
    rw [← BitVec.testBit_toNat, hz, Nat.zero_testBit] at h3
    rw [testBit_val] at hx1
    cases h4 : x.testBit k with
    | false => rw [h4] at hx1; cases hx1
    | true => rw [h4] at h3; simpa using h3
  · intro h
    have hz : (BitVec.ofNat 64 x) &&& ~~~(BitVec.ofNat 64 281479271743489) = 0#64 := by
      refine BitVec.eq_of_getLsbD_eq fun k hk => ?_
      rw [hb k hk, BitVec.getLsbD_zero]
      cases h4 : x.testBit k with
      | false => rfl
      | true => rw [decide_eq_true (h k hk (by rw [testBit_val, h4]; rfl))]; rfl
    rw [hz]; rfl
/-! ### A part of a slice -/
section
variable {P : Program} {N : Fr} {m : Env} {w : World} {ty : TypeId} {pos : String} {after : Array Edge} {g : Option (Nat × Bool)} {dst : Option Tmp}
def cutLH (ao : Option Addr) (i c n0 : Nat) : Option Addr := if c = i then ao else ao.map (·.add (i * n0))
theorem Yl_sliceLH {t e : TypeId} {x y z : Operand} {k k' : IntKind} {i j c n0 b0 n : Nat} {ao : Option Addr} [ht : TSlice P t e] [hs : TSize P e n0 b0] (hx : ev m x = some (.slice ao n c)) (hy : ev m y = some (.int k (i : Int))) (hz : ev m z = some (.int k' (j : Int))) (hi : i ≤ j) (hj : j ≤ c) :
    Yl P N m w ⟨dst, .slice t x (some y) (some z) none, ty, pos, after, g⟩ (.slice (cutLH ao i c n0) (j - i) (c - i)) := by
  refine Yl_of_run fun ac w' ha _ => ?_
  obtain ⟨inf, h1, h2⟩ := Option.map_eq_some_iff.1 hs.h
  simp only [Prod.mk.injEq] at h2
  have he : P.elem t = e := by simp [Program.elem, ht.h]
  have hu : P.underlying t = some (.slice (P.elem t)) := by rw [he]; exact ht.h
  have := run_slice_lh (P := P) w' t ao n c hu k k' i j (by omega) (by omega) (by omega)
  simp only [execOp, Option.map_none, Option.map_some, ha.ev hx, ha.ev hy, ha.ev hz]
  simp only [Sem.run_bind, run_sliceAt_slice w' t _ _ _ _ hu, this, sizeOf, typeInfo, he]
  simp [sliced, h1, h2.1, Result.andThen, cutLH]
end
theorem Ins.cut {w : World} {ao : Option Addr} {L : List Int} {c i j : Nat} (h : Ins w ao L) (hc : L.length ≤ c) (_hij : i ≤ j) (_hj : j ≤ L.length) : Ins w (cutLH ao i c 1) ((L.drop i).take (j - i)) := fun k u hk => by
  have hl : k < ((L.drop i).take (j - i)).length := by have := (List.getElem?_eq_some_iff.1 hk).1; rw [List.length_map] at this; exact this
  rw [List.length_take, List.length_drop] at hl
  rw [List.getElem?_map, List.getElem?_take, if_pos (by omega), List.getElem?_drop] at hk
  obtain ⟨ad, rfl, h1⟩ := h (i + k) u (by rw [List.getElem?_map]; exact hk)
  refine ⟨ad.add (i * 1), by unfold cutLH; rw [if_neg (by omega)]; rfl, ?_⟩
  rw [add_add, ← Nat.add_mul]; exact h1
/-! ### formed -/
set_option maxHeartbeats 2000000 in
theorem formed_v (x : Nd) (nn ff : Int) (ao : Option Addr) (l : List Int) (n c d : Nat) (root b : Bool) (w : World) (hnl : n = l.length) (hL : Ins w ao l) (hx1 : x.inner < 18446744073709551616) (hx2 : x.leaf < 18446744073709551616) (hn : l.length ≤ 1000000) (hb : b = true ↔ Formed x l d root) :
    Calls Try.prog 64 #[.agg #[.int .u64 x.inner, .int .u64 x.leaf, .int .i64 nn, .int .i64 ff], .slice ao n c, .int .i64 d, .bool root] w (Ret (.bool b) w) := by
  subst hnl
  have ea : bits .and .u64 (x.inner : Int) (x.leaf : Int) = ((x.inner &&& x.leaf : Nat) : Int) := u64_and_nat _ _ hx1 hx2
  refine V_enter (vs := [_, _, _, _]) Try.func64 rfl Try.ntmps64 (Nat.le_of_ble_eq_true rfl) ?_
  repeat (first | refine Vx ?_ | (apply Ops_q; (case hon => exact Va); (case hd => rfl); (case hq => exact YlA)) | refine Vr ?_ | refine Vt ?_ | refine Vf ?_ | refine Vm ?_ | refine Ve ?_ | refine Vo ?_ | refine Vz ?_ | refine Vn ?_)
  (refine Ops_box (by exact Va) rfl rfl rfl ?_; intro w1 b4 n_b4; have k_b4 := n_b4.blk)
  have x1 := n_b4.ext
  clear n_b4
  have hL1 := hL.ext x1
  repeat (first | refine Vx ?_ | (apply Ops_q; (case hon => exact Va); (case hd => rfl); (case hq => exact YlA)) | refine Vr ?_ | refine Vt ?_ | refine Vf ?_ | refine Vm ?_ | refine Ve ?_ | refine Vo ?_ | refine Vz ?_ | refine Vn ?_)
  rw [ea]
  by_cases t1 : x.inner &&& x.leaf = 0
  · have d1 : (!decide (((x.inner &&& x.leaf : Nat) : Int) = 0)) = false := by rw [decide_eq_true (by omega)]; rfl
    refine Ops_know rfl rfl d1 ?_
    repeat (first | refine Vx ?_ | (apply Ops_q; (case hon => exact Va); (case hd => rfl); (case hq => exact YlA)) | refine Vr ?_ | refine Vt ?_ | refine Vf ?_ | refine Vm ?_ | refine Ve ?_ | refine Vo ?_ | refine Vz ?_ | refine Vn ?_)
    by_cases t2 : 5 < d
    · have d2 : decide ((5 : Int) < (d : Int)) = true := decide_eq_true (by omega)
      refine Ops_know rfl rfl d2 ?_
      repeat (first | refine Vx ?_ | (apply Ops_q; (case hon => exact Va); (case hd => rfl); (case hq => exact YlA)) | refine Vr ?_ | refine Vt ?_ | refine Vf ?_ | refine Vm ?_ | refine Ve ?_ | refine Vo ?_ | refine Vz ?_ | refine Vn ?_)
      refine ret1 (by first | exact .inl rfl | exact .inr rfl) rfl rfl ?_
      obtain rfl : b = false := bool_false hb (fun h ↦ by have := h.dep; omega)
      exact Ret_mk rfl x1
    have d2 : decide ((5 : Int) < (d : Int)) = false := decide_eq_false (by omega)
    refine Ops_know rfl rfl d2 ?_
    repeat (first | refine Vx ?_ | (apply Ops_q; (case hon => exact Va); (case hd => rfl); (case hq => exact YlA)) | refine Vr ?_ | refine Vt ?_ | refine Vf ?_ | refine Vm ?_ | refine Ve ?_ | refine Vo ?_ | refine Vz ?_ | refine Vn ?_)
    by_cases t3 : d = 5
    · have d3 : decide ((d : Int) = 5) = true := decide_eq_true (by omega)
      refine Ops_know rfl rfl d3 ?_
      repeat (first | refine Vx ?_ | (apply Ops_q; (case hon => exact Va); (case hd => rfl); (case hq => exact YlA)) | refine Vr ?_ | refine Vt ?_ | refine Vf ?_ | refine Vm ?_ | refine Ve ?_ | refine Vo ?_ | refine Vz ?_ | refine Vn ?_)
      by_cases t4 : x.inner = 0
      · have d4 : (!decide ((x.inner : Int) = 0)) = false := by rw [decide_eq_true (by omega)]; rfl
        refine Ops_know rfl rfl d4 ?_
        repeat (first | refine Vx ?_ | (apply Ops_q; (case hon => exact Va); (case hd => rfl); (case hq => exact YlA)) | refine Vr ?_ | refine Vt ?_ | refine Vf ?_ | refine Vm ?_ | refine Ve ?_ | refine Vo ?_ | refine Vz ?_ | refine Vn ?_)
        by_cases t5 : bits .andNot .u64 (x.leaf : Int) 281479271743489 = 0
        · have d5 : (!decide (bits .andNot .u64 (x.leaf : Int) 281479271743489 = 0)) = false := by rw [decide_eq_true t5]; rfl
          have hlast := (andNot_zero x.leaf).1 t5
          refine V_no rfl d5 ?_
          clear d1 d2 d3 d4 d5 ea t5
          repeat (first | refine Vx ?_ | (apply Ops_q; (case hon => exact Va); (case hd => rfl); (case hq => exact YlA)) | refine Vr ?_ | refine Vt ?_ | refine Vf ?_ | refine Vm ?_ | refine Ve ?_ | refine Vo ?_ | refine Vz ?_ | refine Vn ?_)
          refine V_meetB (fun _ : Unit => [(4, .pointer (some ⟨b4, 0, none⟩)), (1, .slice ao l.length c), (3, .bool root)]) (fun _ w' => w' = w1 ∧ ∀ k, k < 64 → (∀ y, y < k → x.inner / 2 ^ y % 2 = 1) → x.inner / 2 ^ k % 2 ≠ 1 → x.leaf / 2 ^ k % 2 = 1) ?_ ?_
          · refine V_loop (fun k : Nat => [(9, .int .i64 k), (4, .pointer (some ⟨b4, 0, none⟩)), (1, .slice ao l.length c), (3, .bool root)]) (fun k w' => w' = w1 ∧ k ≤ 64 ∧ ∀ y, y < k → x.inner / 2 ^ y % 2 = 1) (fun k => 64 - k) 0 (by repeat (first | exact trivial | refine ⟨rfl, ?_⟩)) ⟨rfl, Nat.zero_le _, fun y h => absurd h (Nat.not_lt_zero y)⟩ ?_
            rintro k w2 ⟨rfl, hk, hs⟩
            repeat (first | refine Vx ?_ | (apply Ops_q; (case hon => exact Va); (case hd => rfl); (case hq => exact YlA)) | refine Vr ?_ | refine Vt ?_ | refine Vf ?_ | refine Vm ?_ | refine Ve ?_ | refine Vo ?_ | refine Vz ?_ | refine Vn ?_)
            refine V_cond rfl (fun hg => ?_) (fun hg => ?_)
            · have hk64 : k < 64 := by have := of_decide_eq_true hg; omega
              clear hg
              have hb1 := and_one64 x.inner k hx1
              have hb2 := and_one64 x.leaf k hx2
              repeat (first | refine Vx ?_ | (apply Ops_q; (case hon => exact Va); (case hd => rfl); (case hq => exact YlA)) | refine Vr ?_ | refine Vt ?_ | refine Vf ?_ | refine Vm ?_ | refine Ve ?_ | refine Vo ?_ | refine Vz ?_ | refine Vn ?_)
              rw [hb1]
              by_cases t : x.inner / 2 ^ k % 2 = 1
              · have d1 : decide (((x.inner / 2 ^ k % 2 : Nat) : Int) = 0) = false := decide_eq_false (by omega)
                refine V_no rfl d1 ?_
                repeat (first | refine Vx ?_ | (apply Ops_q; (case hon => exact Va); (case hd => rfl); (case hq => exact YlA)) | refine Vr ?_ | refine Vt ?_ | refine Vf ?_ | refine Vm ?_ | refine Ve ?_ | refine Vo ?_ | refine Vz ?_ | refine Vn ?_)
                refine ⟨k + 1, (by repeat (first | exact trivial | refine ⟨rfl, ?_⟩)), ⟨rfl, hk64, fun y hy => ?_⟩, by omega⟩
                rcases Nat.lt_or_ge y k with h1 | h1
                · exact hs y h1
                · rw [show y = k by omega]; exact t
              · have d1 : decide (((x.inner / 2 ^ k % 2 : Nat) : Int) = 0) = true := decide_eq_true (by omega)
                refine V_yes rfl d1 ?_
                repeat (first | refine Vx ?_ | (apply Ops_q; (case hon => exact Va); (case hd => rfl); (case hq => exact YlA)) | refine Vr ?_ | refine Vt ?_ | refine Vf ?_ | refine Vm ?_ | refine Ve ?_ | refine Vo ?_ | refine Vz ?_ | refine Vn ?_)
                rw [hb2]
                by_cases t2 : x.leaf / 2 ^ k % 2 = 1
                · have d2 : decide (((x.leaf / 2 ^ k % 2 : Nat) : Int) = 0) = false := decide_eq_false (by omega)
                  refine V_no rfl d2 ?_
                  repeat (first | refine Vx ?_ | (apply Ops_q; (case hon => exact Va); (case hd => rfl); (case hq => exact YlA)) | refine Vr ?_ | refine Vt ?_ | refine Vf ?_ | refine Vm ?_ | refine Ve ?_ | refine Vo ?_ | refine Vz ?_ | refine Vn ?_)
                  refine ⟨(), (by repeat (first | exact trivial | refine ⟨rfl, ?_⟩)), rfl, fun q hq hq1 hq2 => ?_⟩
                  rcases Nat.lt_trichotomy q k with h1 | h1 | h1
                  · exact absurd (hs q h1) hq2
                  · rw [h1]; exact t2
                  · exact absurd (hq1 k h1) t
                · have d2 : decide (((x.leaf / 2 ^ k % 2 : Nat) : Int) = 0) = true := decide_eq_true (by omega)
                  refine V_yes rfl d2 ?_
                  repeat (first | refine Vx ?_ | (apply Ops_q; (case hon => exact Va); (case hd => rfl); (case hq => exact YlA)) | refine Vr ?_ | refine Vt ?_ | refine Vf ?_ | refine Vm ?_ | refine Ve ?_ | refine Vo ?_ | refine Vz ?_ | refine Vn ?_)
                  refine ret1 (by first | exact .inl rfl | exact .inr rfl) rfl rfl ?_
                  obtain rfl : b = false := bool_false hb (fun h => t2 (h.head k hk64 hs t))
                  exact Ret_mk rfl x1
            · obtain rfl : k = 64 := by have := of_decide_eq_false hg; omega
              repeat (first | refine Vx ?_ | (apply Ops_q; (case hon => exact Va); (case hd => rfl); (case hq => exact YlA)) | refine Vr ?_ | refine Vt ?_ | refine Vf ?_ | refine Vm ?_ | refine Ve ?_ | refine Vo ?_ | refine Vz ?_ | refine Vn ?_)
              exact ⟨(), (by repeat (first | exact trivial | refine ⟨rfl, ?_⟩)), rfl, fun q hq _ hq2 => absurd (hs q hq) hq2⟩
          rintro _ w2 ⟨rfl, hhead⟩
          repeat (first | refine Vx ?_ | (apply Ops_q; (case hon => exact Va); (case hd => rfl); (case hq => exact YlA)) | refine Vr ?_ | refine Vt ?_ | refine Vf ?_ | refine Vm ?_ | refine Ve ?_ | refine Vo ?_ | refine Vz ?_ | refine Vn ?_)
          refine V_loop (fun k : Nat => [(55, .int .i64 k), (54, .int .i64 l.length), (53, .slice ao l.length c), (4, .pointer (some ⟨b4, 0, none⟩)), (1, .slice ao l.length c), (3, .bool root)]) (fun k w' => w' = w2 ∧ k ≤ l.length ∧ ∀ i v, i < k → l[i]? = some v → -1 ≤ v ∧ ∀ u, 0 < i → l[i - 1]? = some u → u ≠ v) (fun k => l.length - k) 0 (by repeat (first | exact trivial | refine ⟨rfl, ?_⟩)) ⟨rfl, Nat.zero_le _, fun i v h => absurd h (Nat.not_lt_zero i)⟩ ?_
          rintro k w3 ⟨rfl, hk, hs⟩
          repeat (first | refine Vx ?_ | (apply Ops_q; (case hon => exact Va); (case hd => rfl); (case hq => exact YlA)) | refine Vr ?_ | refine Vt ?_ | refine Vf ?_ | refine Vm ?_ | refine Ve ?_ | refine Vo ?_ | refine Vz ?_ | refine Vn ?_)
          refine V_cond rfl (fun hg => ?_) (fun hg => ?_)
          · have hkl : k < l.length := by have := of_decide_eq_true hg; omega
            clear hg
            obtain ⟨v, hv⟩ : ∃ v, l[k]? = some v := ⟨_, List.getElem?_eq_getElem hkl⟩
            obtain ⟨ad, rfl, hc⟩ := hL1.at hv
            have hstep : -1 ≤ v → (∀ u, 0 < k → l[k - 1]? = some u → u ≠ v) → ∀ i z, i < k + 1 → l[i]? = some z → -1 ≤ z ∧ ∀ u, 0 < i → l[i - 1]? = some u → u ≠ z := fun h1 h2 i z hi hz => by
              rcases Nat.lt_or_ge i k with h3 | h3
              · exact hs i z h3 hz
              · obtain rfl : i = k := by omega
                rw [hv] at hz; cases hz
                exact ⟨h1, h2⟩
            repeat (first | refine Vx ?_ | (apply Ops_q; (case hon => exact Va); (case hd => rfl); (case hq => exact YlA)) | refine Vr ?_ | refine Vt ?_ | refine Vf ?_ | refine Vm ?_ | refine Ve ?_ | refine Vo ?_ | refine Vz ?_ | refine Vn ?_)
            (apply Ops_q; (case hon => (exact Va)); (case hd => rfl); (case hq => exact Yl_indexS (j := k) rfl rfl (by omega)))
            repeat (first | refine Vx ?_ | (apply Ops_q; (case hon => exact Va); (case hd => rfl); (case hq => exact YlA)) | refine Vr ?_ | refine Vt ?_ | refine Vf ?_ | refine Vm ?_ | refine Ve ?_ | refine Vo ?_ | refine Vz ?_ | refine Vn ?_)
            by_cases t1 : v < -1
            · have d1 : decide (v < -1) = true := decide_eq_true t1
              refine Ops_know rfl rfl d1 ?_
              repeat (first | refine Vx ?_ | (apply Ops_q; (case hon => exact Va); (case hd => rfl); (case hq => exact YlA)) | refine Vr ?_ | refine Vt ?_ | refine Vf ?_ | refine Vm ?_ | refine Ve ?_ | refine Vo ?_ | refine Vz ?_ | refine Vn ?_)
              refine ret1 (by first | exact .inl rfl | exact .inr rfl) rfl rfl ?_
              obtain rfl : b = false := bool_false hb (fun h ↦ by have := h.vals v (List.mem_of_getElem? hv); omega)
              exact Ret_mk rfl x1
            have d1 : decide (v < -1) = false := decide_eq_false t1
            refine Ops_know rfl rfl d1 ?_
            repeat (first | refine Vx ?_ | (apply Ops_q; (case hon => exact Va); (case hd => rfl); (case hq => exact YlA)) | refine Vr ?_ | refine Vt ?_ | refine Vf ?_ | refine Vm ?_ | refine Ve ?_ | refine Vo ?_ | refine Vz ?_ | refine Vn ?_)
            rcases Nat.eq_zero_or_pos k with rfl | hkp
            · have d2 : decide ((0 : Int) < ((0 : Nat) : Int)) = false := rfl
              repeat (first | refine Vx ?_ | (apply Ops_q; (case hon => exact Va); (case hd => rfl); (case hq => exact YlA)) | refine Vr ?_ | refine Vt ?_ | refine Vf ?_ | refine Vm ?_ | refine Ve ?_ | refine Vo ?_ | refine Vz ?_ | refine Vn ?_)
              exact ⟨0 + 1, (by repeat (first | exact trivial | refine ⟨rfl, ?_⟩)), ⟨rfl, hkl, hstep (by omega) (fun u h => absurd h (Nat.lt_irrefl 0))⟩, by omega⟩
            · have d2 : decide ((0 : Int) < (k : Int)) = true := decide_eq_true (by omega)
              obtain ⟨u, hu⟩ : ∃ u, l[k - 1]? = some u := ⟨_, List.getElem?_eq_getElem (by omega)⟩
              obtain ⟨ad', eA, hc'⟩ := hL1.at hu
              cases eA
              have ek : (k : Int) - 1 = ((k - 1 : Nat) : Int) := by omega
              refine Ops_know rfl rfl d2 ?_
              repeat (first | refine Vx ?_ | (apply Ops_q; (case hon => exact Va); (case hd => rfl); (case hq => exact YlA)) | refine Vr ?_ | refine Vt ?_ | refine Vf ?_ | refine Vm ?_ | refine Ve ?_ | refine Vo ?_ | refine Vz ?_ | refine Vn ?_)
              rw [ek]
              (apply Ops_q; (case hon => (exact Va)); (case hd => rfl); (case hq => exact Yl_indexS (j := k - 1) rfl rfl (by omega)))
              repeat (first | refine Vx ?_ | (apply Ops_q; (case hon => exact Va); (case hd => rfl); (case hq => exact YlA)) | refine Vr ?_ | refine Vt ?_ | refine Vf ?_ | refine Vm ?_ | refine Ve ?_ | refine Vo ?_ | refine Vz ?_ | refine Vn ?_)
              by_cases t2 : u = v
              · have d3 : decide (u = v) = true := decide_eq_true t2
                refine V_yes rfl d3 ?_
                repeat (first | refine Vx ?_ | (apply Ops_q; (case hon => exact Va); (case hd => rfl); (case hq => exact YlA)) | refine Vr ?_ | refine Vt ?_ | refine Vf ?_ | refine Vm ?_ | refine Ve ?_ | refine Vo ?_ | refine Vz ?_ | refine Vn ?_)
                refine ret1 (by first | exact .inl rfl | exact .inr rfl) rfl rfl ?_
                obtain rfl : b = false := bool_false hb (fun h ↦ h.alt (k - 1) u v hu (by rw [show k - 1 + 1 = k by omega]; exact hv) t2)
                exact Ret_mk rfl x1
              · have d3 : decide (u = v) = false := decide_eq_false t2
                refine V_no rfl d3 ?_
                repeat (first | refine Vx ?_ | (apply Ops_q; (case hon => exact Va); (case hd => rfl); (case hq => exact YlA)) | refine Vr ?_ | refine Vt ?_ | refine Vf ?_ | refine Vm ?_ | refine Ve ?_ | refine Vo ?_ | refine Vz ?_ | refine Vn ?_)
                exact ⟨k + 1, (by repeat (first | exact trivial | refine ⟨rfl, ?_⟩)), ⟨rfl, hkl, hstep (by omega) (fun u' _ h => by rw [hu] at h; cases h; exact t2)⟩, by omega⟩
          · obtain rfl : k = l.length := by have := of_decide_eq_false hg; omega
            clear hg
            have hvals : ∀ v ∈ l, -1 ≤ v := fun v hv => by
              obtain ⟨i, hi⟩ := List.getElem?_of_mem hv
              exact (hs i v (List.getElem?_eq_some_iff.1 hi).1 hi).1
            have halt : ∀ i v u, l[i]? = some v → l[i + 1]? = some u → v ≠ u := fun i v u h1 h2 => (hs (i + 1) u (List.getElem?_eq_some_iff.1 h2).1 h2).2 v (Nat.succ_pos _) h1
            have hall : (root = true ∨ x.inner ≠ 0 ∨ 1 < l.length) → b = true := fun h => hb.2 ⟨t1, by omega, (fun _ ↦ ⟨t4, hlast⟩), hhead, hvals, halt, h⟩
            clear hs hhead hvals halt
            cases root with
            | true =>
              repeat (first | refine Vx ?_ | (apply Ops_q; (case hon => exact Va); (case hd => rfl); (case hq => exact YlA)) | refine Vr ?_ | refine Vt ?_ | refine Vf ?_ | refine Vm ?_ | refine Ve ?_ | refine Vo ?_ | refine Vz ?_ | refine Vn ?_)
              refine ret1 (by first | exact .inl rfl | exact .inr rfl) rfl rfl ?_
              obtain rfl := hall (.inl rfl)
              exact Ret_mk rfl x1
            | false =>
              repeat (first | refine Vx ?_ | (apply Ops_q; (case hon => exact Va); (case hd => rfl); (case hq => exact YlA)) | refine Vr ?_ | refine Vt ?_ | refine Vf ?_ | refine Vm ?_ | refine Ve ?_ | refine Vo ?_ | refine Vz ?_ | refine Vn ?_)
              by_cases t6 : x.inner = 0
              · have d6 : (!decide ((x.inner : Int) = 0)) = false := by rw [decide_eq_true (by omega)]; rfl
                refine Ops_know rfl rfl d6 ?_
                repeat (first | refine Vx ?_ | (apply Ops_q; (case hon => exact Va); (case hd => rfl); (case hq => exact YlA)) | refine Vr ?_ | refine Vt ?_ | refine Vf ?_ | refine Vm ?_ | refine Ve ?_ | refine Vo ?_ | refine Vz ?_ | refine Vn ?_)
                refine ret1 (by first | exact .inl rfl | exact .inr rfl) rfl rfl ?_
                refine Ret_mk ?_ x1
                have : decide ((1 : Int) < (l.length : Int)) = b := by
                  cases b with
                  | true =>
                    have := (hb.1 rfl).two
                    rcases this with h | h | h
                    · cases h
                    · exact absurd t6 h
                    · exact decide_eq_true (by omega)
                  | false => exact decide_eq_false (fun h => by have := hall (.inr (.inr (by omega))); cases this)
                rw [this]
              · have d6 : (!decide ((x.inner : Int) = 0)) = true := by rw [decide_eq_false (by omega)]; rfl
                refine Ops_know rfl rfl d6 ?_
                repeat (first | refine Vx ?_ | (apply Ops_q; (case hon => exact Va); (case hd => rfl); (case hq => exact YlA)) | refine Vr ?_ | refine Vt ?_ | refine Vf ?_ | refine Vm ?_ | refine Ve ?_ | refine Vo ?_ | refine Vz ?_ | refine Vn ?_)
                refine ret1 (by first | exact .inl rfl | exact .inr rfl) rfl rfl ?_
                obtain rfl := hall (.inr (.inl t6))
                exact Ret_mk rfl x1
        · have d5 : (!decide (bits .andNot .u64 (x.leaf : Int) 281479271743489 = 0)) = true := by rw [decide_eq_false t5]; rfl
          refine V_yes rfl d5 ?_
          repeat (first | refine Vx ?_ | (apply Ops_q; (case hon => exact Va); (case hd => rfl); (case hq => exact YlA)) | refine Vr ?_ | refine Vt ?_ | refine Vf ?_ | refine Vm ?_ | refine Ve ?_ | refine Vo ?_ | refine Vz ?_ | refine Vn ?_)
          refine ret1 (by first | exact .inl rfl | exact .inr rfl) rfl rfl ?_
          obtain rfl : b = false := bool_false hb (fun h ↦ t5 ((andNot_zero x.leaf).2 (h.last t3).2))
          exact Ret_mk rfl x1
      · have d4 : (!decide ((x.inner : Int) = 0)) = true := by rw [decide_eq_false (by omega)]; rfl
        refine Ops_know rfl rfl d4 ?_
        repeat (first | refine Vx ?_ | (apply Ops_q; (case hon => exact Va); (case hd => rfl); (case hq => exact YlA)) | refine Vr ?_ | refine Vt ?_ | refine Vf ?_ | refine Vm ?_ | refine Ve ?_ | refine Vo ?_ | refine Vz ?_ | refine Vn ?_)
        refine ret1 (by first | exact .inl rfl | exact .inr rfl) rfl rfl ?_
        obtain rfl : b = false := bool_false hb (fun h ↦ t4 (h.last t3).1)
        exact Ret_mk rfl x1
    · have d3 : decide ((d : Int) = 5) = false := decide_eq_false (by omega)
      refine Ops_know rfl rfl d3 ?_
      clear d1 d2 d3 ea
      repeat (first | refine Vx ?_ | (apply Ops_q; (case hon => exact Va); (case hd => rfl); (case hq => exact YlA)) | refine Vr ?_ | refine Vt ?_ | refine Vf ?_ | refine Vm ?_ | refine Ve ?_ | refine Vo ?_ | refine Vz ?_ | refine Vn ?_)
      refine V_meetB (fun _ : Unit => [(4, .pointer (some ⟨b4, 0, none⟩)), (1, .slice ao l.length c), (3, .bool root)]) (fun _ w' => w' = w1 ∧ ∀ k, k < 64 → (∀ y, y < k → x.inner / 2 ^ y % 2 = 1) → x.inner / 2 ^ k % 2 ≠ 1 → x.leaf / 2 ^ k % 2 = 1) ?_ ?_
      · refine V_loop (fun k : Nat => [(9, .int .i64 k), (4, .pointer (some ⟨b4, 0, none⟩)), (1, .slice ao l.length c), (3, .bool root)]) (fun k w' => w' = w1 ∧ k ≤ 64 ∧ ∀ y, y < k → x.inner / 2 ^ y % 2 = 1) (fun k => 64 - k) 0 (by repeat (first | exact trivial | refine ⟨rfl, ?_⟩)) ⟨rfl, Nat.zero_le _, fun y h => absurd h (Nat.not_lt_zero y)⟩ ?_
        rintro k w2 ⟨rfl, hk, hs⟩
        repeat (first | refine Vx ?_ | (apply Ops_q; (case hon => exact Va); (case hd => rfl); (case hq => exact YlA)) | refine Vr ?_ | refine Vt ?_ | refine Vf ?_ | refine Vm ?_ | refine Ve ?_ | refine Vo ?_ | refine Vz ?_ | refine Vn ?_)
        refine V_cond rfl (fun hg => ?_) (fun hg => ?_)
        · have hk64 : k < 64 := by have := of_decide_eq_true hg; omega
          clear hg
          have hb1 := and_one64 x.inner k hx1
          have hb2 := and_one64 x.leaf k hx2
          repeat (first | refine Vx ?_ | (apply Ops_q; (case hon => exact Va); (case hd => rfl); (case hq => exact YlA)) | refine Vr ?_ | refine Vt ?_ | refine Vf ?_ | refine Vm ?_ | refine Ve ?_ | refine Vo ?_ | refine Vz ?_ | refine Vn ?_)
          rw [hb1]
          by_cases t : x.inner / 2 ^ k % 2 = 1
          · have d1 : decide (((x.inner / 2 ^ k % 2 : Nat) : Int) = 0) = false := decide_eq_false (by omega)
            refine V_no rfl d1 ?_
            repeat (first | refine Vx ?_ | (apply Ops_q; (case hon => exact Va); (case hd => rfl); (case hq => exact YlA)) | refine Vr ?_ | refine Vt ?_ | refine Vf ?_ | refine Vm ?_ | refine Ve ?_ | refine Vo ?_ | refine Vz ?_ | refine Vn ?_)
            refine ⟨k + 1, (by repeat (first | exact trivial | refine ⟨rfl, ?_⟩)), ⟨rfl, hk64, fun y hy => ?_⟩, by omega⟩
            rcases Nat.lt_or_ge y k with h1 | h1
            · exact hs y h1
            · rw [show y = k by omega]; exact t
          · have d1 : decide (((x.inner / 2 ^ k % 2 : Nat) : Int) = 0) = true := decide_eq_true (by omega)
            refine V_yes rfl d1 ?_
            repeat (first | refine Vx ?_ | (apply Ops_q; (case hon => exact Va); (case hd => rfl); (case hq => exact YlA)) | refine Vr ?_ | refine Vt ?_ | refine Vf ?_ | refine Vm ?_ | refine Ve ?_ | refine Vo ?_ | refine Vz ?_ | refine Vn ?_)
            rw [hb2]
            by_cases t2 : x.leaf / 2 ^ k % 2 = 1
            · have d2 : decide (((x.leaf / 2 ^ k % 2 : Nat) : Int) = 0) = false := decide_eq_false (by omega)
              refine V_no rfl d2 ?_
              repeat (first | refine Vx ?_ | (apply Ops_q; (case hon => exact Va); (case hd => rfl); (case hq => exact YlA)) | refine Vr ?_ | refine Vt ?_ | refine Vf ?_ | refine Vm ?_ | refine Ve ?_ | refine Vo ?_ | refine Vz ?_ | refine Vn ?_)
              refine ⟨(), (by repeat (first | exact trivial | refine ⟨rfl, ?_⟩)), rfl, fun q hq hq1 hq2 => ?_⟩
              rcases Nat.lt_trichotomy q k with h1 | h1 | h1
              · exact absurd (hs q h1) hq2
              · rw [h1]; exact t2
              · exact absurd (hq1 k h1) t
            · have d2 : decide (((x.leaf / 2 ^ k % 2 : Nat) : Int) = 0) = true := decide_eq_true (by omega)
              refine V_yes rfl d2 ?_
              repeat (first | refine Vx ?_ | (apply Ops_q; (case hon => exact Va); (case hd => rfl); (case hq => exact YlA)) | refine Vr ?_ | refine Vt ?_ | refine Vf ?_ | refine Vm ?_ | refine Ve ?_ | refine Vo ?_ | refine Vz ?_ | refine Vn ?_)
              refine ret1 (by first | exact .inl rfl | exact .inr rfl) rfl rfl ?_
              obtain rfl : b = false := bool_false hb (fun h => t2 (h.head k hk64 hs t))
              exact Ret_mk rfl x1
        · obtain rfl : k = 64 := by have := of_decide_eq_false hg; omega
          repeat (first | refine Vx ?_ | (apply Ops_q; (case hon => exact Va); (case hd => rfl); (case hq => exact YlA)) | refine Vr ?_ | refine Vt ?_ | refine Vf ?_ | refine Vm ?_ | refine Ve ?_ | refine Vo ?_ | refine Vz ?_ | refine Vn ?_)
          exact ⟨(), (by repeat (first | exact trivial | refine ⟨rfl, ?_⟩)), rfl, fun q hq _ hq2 => absurd (hs q hq) hq2⟩
      rintro _ w2 ⟨rfl, hhead⟩
      repeat (first | refine Vx ?_ | (apply Ops_q; (case hon => exact Va); (case hd => rfl); (case hq => exact YlA)) | refine Vr ?_ | refine Vt ?_ | refine Vf ?_ | refine Vm ?_ | refine Ve ?_ | refine Vo ?_ | refine Vz ?_ | refine Vn ?_)
      refine V_loop (fun k : Nat => [(55, .int .i64 k), (54, .int .i64 l.length), (53, .slice ao l.length c), (4, .pointer (some ⟨b4, 0, none⟩)), (1, .slice ao l.length c), (3, .bool root)]) (fun k w' => w' = w2 ∧ k ≤ l.length ∧ ∀ i v, i < k → l[i]? = some v → -1 ≤ v ∧ ∀ u, 0 < i → l[i - 1]? = some u → u ≠ v) (fun k => l.length - k) 0 (by repeat (first | exact trivial | refine ⟨rfl, ?_⟩)) ⟨rfl, Nat.zero_le _, fun i v h => absurd h (Nat.not_lt_zero i)⟩ ?_
      rintro k w3 ⟨rfl, hk, hs⟩
      repeat (first | refine Vx ?_ | (apply Ops_q; (case hon => exact Va); (case hd => rfl); (case hq => exact YlA)) | refine Vr ?_ | refine Vt ?_ | refine Vf ?_ | refine Vm ?_ | refine Ve ?_ | refine Vo ?_ | refine Vz ?_ | refine Vn ?_)
      refine V_cond rfl (fun hg => ?_) (fun hg => ?_)
      · have hkl : k < l.length := by have := of_decide_eq_true hg; omega
        clear hg
        obtain ⟨v, hv⟩ : ∃ v, l[k]? = some v := ⟨_, List.getElem?_eq_getElem hkl⟩
        obtain ⟨ad, rfl, hc⟩ := hL1.at hv
        have hstep : -1 ≤ v → (∀ u, 0 < k → l[k - 1]? = some u → u ≠ v) → ∀ i z, i < k + 1 → l[i]? = some z → -1 ≤ z ∧ ∀ u, 0 < i → l[i - 1]? = some u → u ≠ z := fun h1 h2 i z hi hz => by
          rcases Nat.lt_or_ge i k with h3 | h3
          · exact hs i z h3 hz
          · obtain rfl : i = k := by omega
            rw [hv] at hz; cases hz
            exact ⟨h1, h2⟩
        repeat (first | refine Vx ?_ | (apply Ops_q; (case hon => exact Va); (case hd => rfl); (case hq => exact YlA)) | refine Vr ?_ | refine Vt ?_ | refine Vf ?_ | refine Vm ?_ | refine Ve ?_ | refine Vo ?_ | refine Vz ?_ | refine Vn ?_)
        (apply Ops_q; (case hon => (exact Va)); (case hd => rfl); (case hq => exact Yl_indexS (j := k) rfl rfl (by omega)))
        repeat (first | refine Vx ?_ | (apply Ops_q; (case hon => exact Va); (case hd => rfl); (case hq => exact YlA)) | refine Vr ?_ | refine Vt ?_ | refine Vf ?_ | refine Vm ?_ | refine Ve ?_ | refine Vo ?_ | refine Vz ?_ | refine Vn ?_)
        by_cases t1 : v < -1
        · have d1 : decide (v < -1) = true := decide_eq_true t1
          refine Ops_know rfl rfl d1 ?_
          repeat (first | refine Vx ?_ | (apply Ops_q; (case hon => exact Va); (case hd => rfl); (case hq => exact YlA)) | refine Vr ?_ | refine Vt ?_ | refine Vf ?_ | refine Vm ?_ | refine Ve ?_ | refine Vo ?_ | refine Vz ?_ | refine Vn ?_)
          refine ret1 (by first | exact .inl rfl | exact .inr rfl) rfl rfl ?_
          obtain rfl : b = false := bool_false hb (fun h ↦ by have := h.vals v (List.mem_of_getElem? hv); omega)
          exact Ret_mk rfl x1
        have d1 : decide (v < -1) = false := decide_eq_false t1
        refine Ops_know rfl rfl d1 ?_
        repeat (first | refine Vx ?_ | (apply Ops_q; (case hon => exact Va); (case hd => rfl); (case hq => exact YlA)) | refine Vr ?_ | refine Vt ?_ | refine Vf ?_ | refine Vm ?_ | refine Ve ?_ | refine Vo ?_ | refine Vz ?_ | refine Vn ?_)
        rcases Nat.eq_zero_or_pos k with rfl | hkp
        · have d2 : decide ((0 : Int) < ((0 : Nat) : Int)) = false := rfl
          repeat (first | refine Vx ?_ | (apply Ops_q; (case hon => exact Va); (case hd => rfl); (case hq => exact YlA)) | refine Vr ?_ | refine Vt ?_ | refine Vf ?_ | refine Vm ?_ | refine Ve ?_ | refine Vo ?_ | refine Vz ?_ | refine Vn ?_)
          exact ⟨0 + 1, (by repeat (first | exact trivial | refine ⟨rfl, ?_⟩)), ⟨rfl, hkl, hstep (by omega) (fun u h => absurd h (Nat.lt_irrefl 0))⟩, by omega⟩
        · have d2 : decide ((0 : Int) < (k : Int)) = true := decide_eq_true (by omega)
          obtain ⟨u, hu⟩ : ∃ u, l[k - 1]? = some u := ⟨_, List.getElem?_eq_getElem (by omega)⟩
          obtain ⟨ad', eA, hc'⟩ := hL1.at hu
          cases eA
          have ek : (k : Int) - 1 = ((k - 1 : Nat) : Int) := by omega
          refine Ops_know rfl rfl d2 ?_
          repeat (first | refine Vx ?_ | (apply Ops_q; (case hon => exact Va); (case hd => rfl); (case hq => exact YlA)) | refine Vr ?_ | refine Vt ?_ | refine Vf ?_ | refine Vm ?_ | refine Ve ?_ | refine Vo ?_ | refine Vz ?_ | refine Vn ?_)
          rw [ek]
          (apply Ops_q; (case hon => (exact Va)); (case hd => rfl); (case hq => exact Yl_indexS (j := k - 1) rfl rfl (by omega)))
          repeat (first | refine Vx ?_ | (apply Ops_q; (case hon => exact Va); (case hd => rfl); (case hq => exact YlA)) | refine Vr ?_ | refine Vt ?_ | refine Vf ?_ | refine Vm ?_ | refine Ve ?_ | refine Vo ?_ | refine Vz ?_ | refine Vn ?_)
          by_cases t2 : u = v
          · have d3 : decide (u = v) = true := decide_eq_true t2
            refine V_yes rfl d3 ?_
            repeat (first | refine Vx ?_ | (apply Ops_q; (case hon => exact Va); (case hd => rfl); (case hq => exact YlA)) | refine Vr ?_ | refine Vt ?_ | refine Vf ?_ | refine Vm ?_ | refine Ve ?_ | refine Vo ?_ | refine Vz ?_ | refine Vn ?_)
            refine ret1 (by first | exact .inl rfl | exact .inr rfl) rfl rfl ?_
            obtain rfl : b = false := bool_false hb (fun h ↦ h.alt (k - 1) u v hu (by rw [show k - 1 + 1 = k by omega]; exact hv) t2)
            exact Ret_mk rfl x1
          · have d3 : decide (u = v) = false := decide_eq_false t2
            refine V_no rfl d3 ?_
            repeat (first | refine Vx ?_ | (apply Ops_q; (case hon => exact Va); (case hd => rfl); (case hq => exact YlA)) | refine Vr ?_ | refine Vt ?_ | refine Vf ?_ | refine Vm ?_ | refine Ve ?_ | refine Vo ?_ | refine Vz ?_ | refine Vn ?_)
            exact ⟨k + 1, (by repeat (first | exact trivial | refine ⟨rfl, ?_⟩)), ⟨rfl, hkl, hstep (by omega) (fun u' _ h => by rw [hu] at h; cases h; exact t2)⟩, by omega⟩
      · obtain rfl : k = l.length := by have := of_decide_eq_false hg; omega
        clear hg
        have hvals : ∀ v ∈ l, -1 ≤ v := fun v hv => by
          obtain ⟨i, hi⟩ := List.getElem?_of_mem hv
          exact (hs i v (List.getElem?_eq_some_iff.1 hi).1 hi).1
        have halt : ∀ i v u, l[i]? = some v → l[i + 1]? = some u → v ≠ u := fun i v u h1 h2 => (hs (i + 1) u (List.getElem?_eq_some_iff.1 h2).1 h2).2 v (Nat.succ_pos _) h1
        have hall : (root = true ∨ x.inner ≠ 0 ∨ 1 < l.length) → b = true := fun h => hb.2 ⟨t1, by omega, (fun h ↦ absurd h t3), hhead, hvals, halt, h⟩
        clear hs hhead hvals halt
        cases root with
        | true =>
          repeat (first | refine Vx ?_ | (apply Ops_q; (case hon => exact Va); (case hd => rfl); (case hq => exact YlA)) | refine Vr ?_ | refine Vt ?_ | refine Vf ?_ | refine Vm ?_ | refine Ve ?_ | refine Vo ?_ | refine Vz ?_ | refine Vn ?_)
          refine ret1 (by first | exact .inl rfl | exact .inr rfl) rfl rfl ?_
          obtain rfl := hall (.inl rfl)
          exact Ret_mk rfl x1
        | false =>
          repeat (first | refine Vx ?_ | (apply Ops_q; (case hon => exact Va); (case hd => rfl); (case hq => exact YlA)) | refine Vr ?_ | refine Vt ?_ | refine Vf ?_ | refine Vm ?_ | refine Ve ?_ | refine Vo ?_ | refine Vz ?_ | refine Vn ?_)
          by_cases t6 : x.inner = 0
          · have d6 : (!decide ((x.inner : Int) = 0)) = false := by rw [decide_eq_true (by omega)]; rfl
            refine Ops_know rfl rfl d6 ?_
            repeat (first | refine Vx ?_ | (apply Ops_q; (case hon => exact Va); (case hd => rfl); (case hq => exact YlA)) | refine Vr ?_ | refine Vt ?_ | refine Vf ?_ | refine Vm ?_ | refine Ve ?_ | refine Vo ?_ | refine Vz ?_ | refine Vn ?_)
            refine ret1 (by first | exact .inl rfl | exact .inr rfl) rfl rfl ?_
            refine Ret_mk ?_ x1
            have : decide ((1 : Int) < (l.length : Int)) = b := by
              cases b with
              | true =>
                have := (hb.1 rfl).two
                rcases this with h | h | h
                · cases h
                · exact absurd t6 h
                · exact decide_eq_true (by omega)
              | false => exact decide_eq_false (fun h => by have := hall (.inr (.inr (by omega))); cases this)
            rw [this]
          · have d6 : (!decide ((x.inner : Int) = 0)) = true := by rw [decide_eq_false (by omega)]; rfl
            refine Ops_know rfl rfl d6 ?_
            repeat (first | refine Vx ?_ | (apply Ops_q; (case hon => exact Va); (case hd => rfl); (case hq => exact YlA)) | refine Vr ?_ | refine Vt ?_ | refine Vf ?_ | refine Vm ?_ | refine Ve ?_ | refine Vo ?_ | refine Vz ?_ | refine Vn ?_)
            refine ret1 (by first | exact .inl rfl | exact .inr rfl) rfl rfl ?_
            obtain rfl := hall (.inr (.inl t6))
            exact Ret_mk rfl x1
  · have d1 : (!decide (((x.inner &&& x.leaf : Nat) : Int) = 0)) = true := by rw [decide_eq_false (by omega)]; rfl
    refine Ops_know rfl rfl d1 ?_
    repeat (first | refine Vx ?_ | (apply Ops_q; (case hon => exact Va); (case hd => rfl); (case hq => exact YlA)) | refine Vr ?_ | refine Vt ?_ | refine Vf ?_ | refine Vm ?_ | refine Ve ?_ | refine Vo ?_ | refine Vz ?_ | refine Vn ?_)
    refine ret1 (by first | exact .inl rfl | exact .inr rfl) rfl rfl ?_
    obtain rfl : b = false := bool_false hb (fun h ↦ t1 h.dis)
    exact Ret_mk rfl x1
end Go.Proofs.Ytjpnaofoeeegeaa


/-
  Stride tables (layer 8): the reference's Check, leaf, Lookup.
  Conditions: the lists are not too long for a machine; the words are words of 64 bits.
-/
namespace Go.Proofs.Ytjpnaofoeeegeaa
open Go.RowKit

theorem refOk_num {N : List Nd} {L : List Int} (h : RefOk N L) : NumOk N L := ⟨h.at_, h.nd, h.lf⟩
set_option maxHeartbeats 2000000 in
theorem checkR8_v (aN aL : Option Addr) (N : List Nd) (L : List Int) (cN cL : Nat) (w : World) (hN : Nds w aN N) (hL : Ins w aL L) (hW : NdW N) (hn : N.length ≤ 1000000) (_hl : L.length ≤ 1000000) (hcap : L.length ≤ cL) :
    Calls Try.prog 30 #[.agg #[.slice aN N.length cN, .slice aL L.length cL]] w (Gives (fun r _ => ∃ v, r = .int .i64 v ∧ ChkC N L v) w) := by
  refine V_enter (vs := [_]) Try.func30 rfl Try.ntmps30 (Nat.le_of_ble_eq_true rfl) ?_
  repeat (first | refine Vx ?_ | (apply Ops_q; (case hon => exact Va); (case hd => rfl); (case hq => exact YlA)) | refine Vr ?_ | refine Vt ?_ | refine Vf ?_ | refine Vm ?_ | refine Ve ?_ | refine Vo ?_ | refine Vz ?_ | refine Vn ?_)
  (refine Ops_box (by exact Va) rfl rfl rfl ?_; intro w1 b1 n_b1; have k_b1 := n_b1.blk)
  have x1 := n_b1.ext
  clear n_b1
  repeat (first | refine Vx ?_ | (apply Ops_q; (case hon => exact Va); (case hd => rfl); (case hq => exact YlA)) | refine Vr ?_ | refine Vt ?_ | refine Vf ?_ | refine Vm ?_ | refine Ve ?_ | refine Vo ?_ | refine Vz ?_ | refine Vn ?_)
  refine V_cond rfl (fun h0 => ?_) (fun h0 => ?_)
  · have h0' : N.length = 0 := by have := of_decide_eq_true h0; omega
    repeat (first | refine Vx ?_ | (apply Ops_q; (case hon => exact Va); (case hd => rfl); (case hq => exact YlA)) | refine Vr ?_ | refine Vt ?_ | refine Vf ?_ | refine Vm ?_ | refine Ve ?_ | refine Vo ?_ | refine Vz ?_ | refine Vn ?_)
    refine ret1 (by first | exact .inl rfl | exact .inr rfl) rfl rfl ?_
    exact Gives_mk (fun _ _ => ⟨_, rfl, .inr ⟨by rw [if_pos h0'], fun g _ hc => by have := hc.ne; omega⟩⟩) x1
  · have h0' : ¬N.length = 0 := by have := of_decide_eq_false h0; omega
    clear h0
    have hbad : ¬RefOk N L → ∀ _w : World, ∃ v : Int, Value.int .i64 1 = .int .i64 v ∧ ChkC N L v := fun h _ => ⟨1, rfl, .inr ⟨by rw [if_neg h0'], fun g hg hc => h (cf_refOk hc hg)⟩⟩
    repeat (first | refine Vx ?_ | (apply Ops_q; (case hon => exact Va); (case hd => rfl); (case hq => exact YlA)) | refine Vr ?_ | refine Vt ?_ | refine Vf ?_ | refine Vm ?_ | refine Ve ?_ | refine Vo ?_ | refine Vz ?_ | refine Vn ?_)
    (refine Ops_callR (by exact Va) rfl rfl (fun w_ e_ => depths_v aN aL N L cN cL w_ (hN.ext (x1.trans e_)) hW hn) ?_; intro vr w2 w0_ e0_ e1_ r_vr; have e_w2 := e0_.trans e1_; have b_vr := e0_.size; clear e0_ e1_)
    obtain ⟨vD, ok, rfl, hok, hown⟩ := r_vr
    have x2 := x1.trans e_w2
    replace k_b1 := k_b1.ext e_w2
    clear b_vr e_w2 x1
    cases ok with
    | false =>
      repeat (first | refine Vx ?_ | (apply Ops_q; (case hon => exact Va); (case hd => rfl); (case hq => exact YlA)) | refine Vr ?_ | refine Vt ?_ | refine Vf ?_ | refine Vm ?_ | refine Ve ?_ | refine Vo ?_ | refine Vz ?_ | refine Vn ?_)
      refine ret1 (by first | exact .inl rfl | exact .inr rfl) rfl rfl ?_
      exact Gives_mk (fun w' _ => hbad (fun h => by have := hok.2 (refOk_num h); cases this) w') x2
    | true =>
      have hnum := hok.1 rfl
      obtain ⟨aD, cD, hvD, hAD⟩ := ownS (hown rfl)
      rw [dpL_len, hnum.nd] at hvD
      subst hvD
      clear hok hown
      repeat (first | refine Vx ?_ | (apply Ops_q; (case hon => exact Va); (case hd => rfl); (case hq => exact YlA)) | refine Vr ?_ | refine Vt ?_ | refine Vf ?_ | refine Vm ?_ | refine Ve ?_ | refine Vo ?_ | refine Vz ?_ | refine Vn ?_)
      refine V_loop (fun k : Nat => [(21, .int .i64 k), (20, .int .i64 N.length), (19, .slice aN N.length cN), (3, .slice aD N.length cD), (1, .pointer (some ⟨b1, 0, none⟩))])
        (fun k w' => k ≤ N.length ∧ Ext w2 w' ∧ ∀ i n, i < k → N[i]? = some n → Formed n (lvsN N L i n) (dpN N i) (decide (i = 0))) (fun k => N.length - k) 0 (by repeat (first | exact trivial | refine ⟨rfl, ?_⟩)) ⟨Nat.zero_le _, Ext.refl _, fun i n h => absurd h (Nat.not_lt_zero i)⟩ ?_
      rintro k w3 ⟨hk, x3, hs⟩
      repeat (first | refine Vx ?_ | (apply Ops_q; (case hon => exact Va); (case hd => rfl); (case hq => exact YlA)) | refine Vr ?_ | refine Vt ?_ | refine Vf ?_ | refine Vm ?_ | refine Ve ?_ | refine Vo ?_ | refine Vz ?_ | refine Vn ?_)
      refine V_cond rfl (fun hg => ?_) (fun hg => ?_)
      · have hkl : k < N.length := by have := of_decide_eq_true hg; omega
        clear hg
        obtain ⟨x, hx⟩ : ∃ x, N[k]? = some x := ⟨_, List.getElem?_eq_getElem hkl⟩
        obtain ⟨ad, rfl, hc⟩ := hN.at hx
        obtain ⟨hx1, hx2⟩ := hW x (List.mem_of_getElem? hx)
        obtain ⟨_, hf, hkn⟩ := hnum.at_ k x hx
        have hc3 : Cells w3 (ad.add (k * 4)) [.int .u64 x.inner, .int .u64 x.leaf, .int .i64 x.nodes, .int .i64 (lfC N k)] := by rw [← hf]; exact hc.ext (x2.trans x3)
        have q2 := lfC_le N k
        have q4 := rankN_le x.leaf 64
        have s2 := lfC_step hx
        have s3 := lfC_mono N (show k + 1 ≤ N.length from hkl)
        have hlf := hnum.lf
        have e2 : (lfC N k : Int) + (rankN x.leaf 64 : Int) = ((lfC N k + rankN x.leaf 64 : Nat) : Int) := by rw [Int.natCast_add]
        have hdp : (dpL N N.length)[k]? = some (dpN N k) := dpN_at (Nat.le_refl _) (by rw [hnum.nd]; exact hkl)
        obtain ⟨aDk, rfl, hcD⟩ := hAD k (nC (dpN N k)) (by rw [List.getElem?_map, hdp]; rfl)
        have hcD3 : w3.cell? (aDk.add (k * 1)) = some (.int .i64 (dpN N k)) := by
          have := (hcD.ext x3) 0 _ rfl
          rw [add_add, Nat.add_zero] at this; exact this
        have e3 : decide ((k : Int) = 0) = decide (k = 0) := decide_eq_decide.2 (by omega)
        obtain ⟨b, hb⟩ : ∃ b : Bool, b = true ↔ Formed x (lvsN N L k x) (dpN N k) (decide (k = 0)) := by
          by_cases h : Formed x (lvsN N L k x) (dpN N k) (decide (k = 0))
          · exact ⟨true, ⟨fun _ => h, fun _ => rfl⟩⟩
          · exact ⟨false, ⟨(fun h2 => nomatch h2), fun h2 => absurd h2 h⟩⟩
        have hcut : ∀ w_, Ext w3 w_ → Ins w_ (cutLH aL (lfC N k) cL 1) (lvsN N L k x) := fun w_ e_ => by
          have := (hL.ext ((x2.trans x3).trans e_)).cut (i := lfC N k) (j := lfC N k + rankN x.leaf 64) hcap (by omega) (by omega)
          unfold lvsN
          rw [show lfC N k + rankN x.leaf 64 - lfC N k = rankN x.leaf 64 by omega] at this; exact this
        have hll : lfC N k + rankN x.leaf 64 - lfC N k = (lvsN N L k x).length := by unfold lvsN; rw [List.length_take, List.length_drop]; omega
        have hll2 : (lvsN N L k x).length ≤ 1000000 := by rw [← hll]; omega
        have kb1 := k_b1.ext x3
        clear hc hcD
        repeat (first | refine Vx ?_ | (apply Ops_q; (case hon => exact Va); (case hd => rfl); (case hq => exact YlA)) | refine Vr ?_ | refine Vt ?_ | refine Vf ?_ | refine Vm ?_ | refine Ve ?_ | refine Vo ?_ | refine Vz ?_ | refine Vn ?_)
        (apply Ops_q; (case hon => (exact Va)); (case hd => rfl); (case hq => exact Yl_indexS (j := k) rfl rfl (by omega)))
        repeat (first | refine Vx ?_ | (apply Ops_q; (case hon => exact Va); (case hd => rfl); (case hq => exact YlA)) | refine Vr ?_ | refine Vt ?_ | refine Vf ?_ | refine Vm ?_ | refine Ve ?_ | refine Vo ?_ | refine Vz ?_ | refine Vn ?_)
        (refine Ops_alloc (by exact Va) rfl ?_; intro w4 b6 n_b6; have k_b6 := n_b6.blk)
        repeat (first | refine Vx ?_ | (apply Ops_q; (case hon => exact Va); (case hd => rfl); (case hq => exact YlA)) | refine Vr ?_ | refine Vt ?_ | refine Vf ?_ | refine Vm ?_ | refine Ve ?_ | refine Vo ?_ | refine Vz ?_ | refine Vn ?_)
        (refine Ops_store (by exact Va) rfl rfl (by assumption) (by first | rfl | exact OneAll.h) ?_; intro w5 u_w5; have k_b6 := u_w5.blk)
        have y5 := u_w5.below n_b6.ext n_b6.ge
        have x5 := x3.trans y5
        replace kb1 := kb1.ext y5
        replace hcD3 := World_cell_ext hcD3 y5
        clear u_w5 n_b6 hc3
        repeat (first | refine Vx ?_ | (apply Ops_q; (case hon => exact Va); (case hd => rfl); (case hq => exact YlA)) | refine Vr ?_ | refine Vt ?_ | refine Vf ?_ | refine Vm ?_ | refine Ve ?_ | refine Vo ?_ | refine Vz ?_ | refine Vn ?_)
        (apply Ops_q; (case hon => (exact Va)); (case hd => rfl); (case hq => exact Yl_call rfl (fun w_ e_ => ronesR_v x.leaf 64 w_ hx2 (Nat.le_refl _))))
        repeat (first | refine Vx ?_ | (apply Ops_q; (case hon => exact Va); (case hd => rfl); (case hq => exact YlA)) | refine Vr ?_ | refine Vt ?_ | refine Vf ?_ | refine Vm ?_ | refine Ve ?_ | refine Vo ?_ | refine Vz ?_ | refine Vn ?_)
        rw [e2]
        (apply Ops_q; (case hon => (exact Va)); (case hd => rfl); (case hq => exact Yl_sliceLH (i := lfC N k) (j := lfC N k + rankN x.leaf 64) rfl rfl rfl (by omega) (by omega)))
        repeat (first | refine Vx ?_ | (apply Ops_q; (case hon => exact Va); (case hd => rfl); (case hq => exact YlA)) | refine Vr ?_ | refine Vt ?_ | refine Vf ?_ | refine Vm ?_ | refine Ve ?_ | refine Vo ?_ | refine Vz ?_ | refine Vn ?_)
        (apply Ops_q; (case hon => (exact Va)); (case hd => rfl); (case hq => exact Yl_indexS (j := k) rfl rfl (by omega)))
        repeat (first | refine Vx ?_ | (apply Ops_q; (case hon => exact Va); (case hd => rfl); (case hq => exact YlA)) | refine Vr ?_ | refine Vt ?_ | refine Vf ?_ | refine Vm ?_ | refine Ve ?_ | refine Vo ?_ | refine Vz ?_ | refine Vn ?_)
        rw [e3]
        (apply Ops_q; (case hon => (exact Va)); (case hd => rfl); (case hq => exact Yl_call rfl (fun w_ e_ => formed_v x x.nodes (lfC N k) _ (lvsN N L k x) _ _ (dpN N k) (decide (k = 0)) b w_ hll (hcut w_ (y5.trans e_)) hx1 hx2 hll2 hb)))
        repeat (first | refine Vx ?_ | (apply Ops_q; (case hon => exact Va); (case hd => rfl); (case hq => exact YlA)) | refine Vr ?_ | refine Vt ?_ | refine Vf ?_ | refine Vm ?_ | refine Ve ?_ | refine Vo ?_ | refine Vz ?_ | refine Vn ?_)
        cases b with
        | true =>
          repeat (first | refine Vx ?_ | (apply Ops_q; (case hon => exact Va); (case hd => rfl); (case hq => exact YlA)) | refine Vr ?_ | refine Vt ?_ | refine Vf ?_ | refine Vm ?_ | refine Ve ?_ | refine Vo ?_ | refine Vz ?_ | refine Vn ?_)
          refine ⟨k + 1, (by repeat (first | exact trivial | refine ⟨rfl, ?_⟩)), ⟨hkl, x5, fun i n hi hni => ?_⟩, by omega⟩
          rcases Nat.lt_or_ge i k with h1 | h1
          · exact hs i n h1 hni
          · obtain rfl : i = k := by omega
            rw [hx] at hni; cases hni
            exact hb.1 rfl
        | false =>
          repeat (first | refine Vx ?_ | (apply Ops_q; (case hon => exact Va); (case hd => rfl); (case hq => exact YlA)) | refine Vr ?_ | refine Vt ?_ | refine Vf ?_ | refine Vm ?_ | refine Ve ?_ | refine Vo ?_ | refine Vz ?_ | refine Vn ?_)
          refine ret1 (by first | exact .inl rfl | exact .inr rfl) rfl rfl ?_
          exact Gives_mk (fun w' _ => hbad (fun h => by have := hb.2 (h.form k x hx); cases this) w') (x2.trans x5)
      · obtain rfl : k = N.length := by have := of_decide_eq_false hg; omega
        clear hg
        have hok : RefOk N L := ⟨by omega, hnum.at_, hnum.nd, hnum.lf, fun i n h => hs i n (List.getElem?_eq_some_iff.1 h).1 h⟩
        obtain ⟨g, hg, hc⟩ := refOk_cf hok hW
        repeat (first | refine Vx ?_ | (apply Ops_q; (case hon => exact Va); (case hd => rfl); (case hq => exact YlA)) | refine Vr ?_ | refine Vt ?_ | refine Vf ?_ | refine Vm ?_ | refine Ve ?_ | refine Vo ?_ | refine Vz ?_ | refine Vn ?_)
        refine ret1 (by first | exact .inl rfl | exact .inr rfl) rfl rfl ?_
        exact Gives_mk (fun w' _ => ⟨0, rfl, .inl ⟨rfl, g, hg, hc⟩⟩) (x2.trans x3)
/-! ### leaf -/
theorem leafR_v (aN aL : Option Addr) (n : Nat) (L : List Int) (cN cL : Nat) (x : Nd) (nn : Int) (lf k : Nat) (w : World) (hL : Ins w aL L) (hx : x.leaf < 18446744073709551616) (hk : k < 64) (hp : 0 < rankN x.leaf (k + 1)) (hin : lf + rankN x.leaf (k + 1) - 1 < L.length) (hl : L.length ≤ 4611686018427387904) (hlf : lf ≤ 4611686018427387904) :
    Calls Try.prog 59 #[.agg #[.slice aN n cN, .slice aL L.length cL], .agg #[.int .u64 x.inner, .int .u64 x.leaf, .int .i64 nn, .int .i64 lf], .int .i64 k] w
      (Ret (.int .i64 (leafV L lf (rankN x.leaf (k + 1)))) w) := by
  have q1 := rankN_le x.leaf (k + 1)
  have ek : (k : Int) + 1 = ((k + 1 : Nat) : Int) := by omega
  refine V_enter (vs := [_, _, _]) Try.func59 rfl Try.ntmps59 (Nat.le_of_ble_eq_true rfl) ?_
  repeat (first | refine Vx ?_ | (apply Ops_q; (case hon => exact Va); (case hd => rfl); (case hq => exact YlA)) | refine Vr ?_ | refine Vt ?_ | refine Vf ?_ | refine Vm ?_ | refine Ve ?_ | refine Vo ?_ | refine Vz ?_ | refine Vn ?_)
  (refine Ops_box (by exact Va) rfl rfl rfl ?_; intro w1 b1 n_b1; have k_b1 := n_b1.blk)
  repeat (first | refine Vx ?_ | (apply Ops_q; (case hon => exact Va); (case hd => rfl); (case hq => exact YlA)) | refine Vr ?_ | refine Vt ?_ | refine Vf ?_ | refine Vm ?_ | refine Ve ?_ | refine Vo ?_ | refine Vz ?_ | refine Vn ?_)
  (refine Ops_box (by exact Va) rfl rfl rfl ?_; intro w2 b2 n_b2; have k_b2 := n_b2.blk)
  replace k_b1 := k_b1.ext n_b2.ext
  have x2 := n_b1.ext.trans n_b2.ext
  clear n_b1 n_b2
  repeat (first | refine Vx ?_ | (apply Ops_q; (case hon => exact Va); (case hd => rfl); (case hq => exact YlA)) | refine Vr ?_ | refine Vt ?_ | refine Vf ?_ | refine Vm ?_ | refine Ve ?_ | refine Vo ?_ | refine Vz ?_ | refine Vn ?_)
  rw [ek]
  (apply Ops_q; (case hon => (exact Va)); (case hd => rfl); (case hq => exact Yl_call rfl (fun w_ e_ => ronesR_v x.leaf (k + 1) w_ hx (by omega))))
  generalize hr : rankN x.leaf (k + 1) = r at *
  obtain ⟨v, hv⟩ : ∃ v, L[lf + r - 1]? = some v := ⟨_, List.getElem?_eq_getElem hin⟩
  obtain ⟨ad, rfl, hc⟩ := hL.at hv
  have hc2 := World_cell_ext hc x2
  have ei : (lf : Int) + (r : Int) - 1 = ((lf + r - 1 : Nat) : Int) := by omega
  repeat (first | refine Vx ?_ | (apply Ops_q; (case hon => exact Va); (case hd => rfl); (case hq => exact YlA)) | refine Vr ?_ | refine Vt ?_ | refine Vf ?_ | refine Vm ?_ | refine Ve ?_ | refine Vo ?_ | refine Vz ?_ | refine Vn ?_)
  rw [ei]
  (apply Ops_q; (case hon => (exact Va)); (case hd => rfl); (case hq => exact Yl_indexS (j := lf + r - 1) rfl rfl (by omega)))
  repeat (first | refine Vx ?_ | (apply Ops_q; (case hon => exact Va); (case hd => rfl); (case hq => exact YlA)) | refine Vr ?_ | refine Vt ?_ | refine Vf ?_ | refine Vm ?_ | refine Ve ?_ | refine Vo ?_ | refine Vz ?_ | refine Vn ?_)
  refine ret1 (by first | exact .inl rfl | exact .inr rfl) rfl rfl ?_
  exact Ret_mk (by rw [leafV, if_neg (by omega), hv]; rfl) x2
/-! ### Lookup -/
set_option maxHeartbeats 2000000 in
theorem lookupR8_v (aN aL : Option Addr) (N : List Nd) (L : List Int) (cN cL a : Nat) (w : World) (hN : Nds w aN N) (hL : Ins w aL L) (hW : NdW N) (hn : N.length ≤ 1000000) (hl : L.length ≤ 1000000) (hcap : L.length ≤ cL) (ha : a < 4294967296) :
    Calls Try.prog 26 #[.agg #[.slice aN N.length cN, .slice aL L.length cL], .int .u32 a] w (Gives (fun r _ => LkC N L a r) w) := by
  refine V_enter (vs := [_, _]) Try.func26 rfl Try.ntmps26 (Nat.le_of_ble_eq_true rfl) ?_
  repeat (first | refine Vx ?_ | (apply Ops_q; (case hon => exact Va); (case hd => rfl); (case hq => exact YlA)) | refine Vr ?_ | refine Vt ?_ | refine Vf ?_ | refine Vm ?_ | refine Ve ?_ | refine Vo ?_ | refine Vz ?_ | refine Vn ?_)
  (refine Ops_box (by exact Va) rfl rfl rfl ?_; intro w1 b2 n_b2; have k_b2 := n_b2.blk)
  have x1 := n_b2.ext
  clear n_b2
  repeat (first | refine Vx ?_ | (apply Ops_q; (case hon => exact Va); (case hd => rfl); (case hq => exact YlA)) | refine Vr ?_ | refine Vt ?_ | refine Vf ?_ | refine Vm ?_ | refine Ve ?_ | refine Vo ?_ | refine Vz ?_ | refine Vn ?_)
  (refine Ops_callR (by exact Va) rfl rfl (fun w_ e_ => checkR8_v aN aL N L cN cL w_ (hN.ext (x1.trans e_)) (hL.ext (x1.trans e_)) hW hn hl hcap) ?_; intro vr w2 w0_ e0_ e1_ r_vr; have e_w2 := e0_.trans e1_; have b_vr := e0_.size; clear e0_ e1_)
  obtain ⟨v, rfl, hv⟩ := r_vr
  have x2 := x1.trans e_w2
  replace k_b2 := k_b2.ext e_w2
  clear b_vr e_w2 x1
  rcases hv with ⟨rfl, g, hg, hc⟩ | ⟨rfl, hno⟩
  · have hR := hc.reg hg
    repeat (first | refine Vx ?_ | (apply Ops_q; (case hon => exact Va); (case hd => rfl); (case hq => exact YlA)) | refine Vr ?_ | refine Vt ?_ | refine Vf ?_ | refine Vm ?_ | refine Ve ?_ | refine Vo ?_ | refine Vz ?_ | refine Vn ?_)
    refine V_loop (fun s : Nat × Nat × Nat => [(7, .int .i64 s.1), (6, .int .i64 s.2.1), (2, .pointer (some ⟨b2, 0, none⟩)), (1, .int .u32 a)])
      (fun s w' => Ext w2 w' ∧ s.1 ≤ 5 ∧ s.2.1 < N.length ∧ XpGood g N L s.2.1 (s.2.2, s.1) ∧ s.2.2 ≤ a ∧ a < s.2.2 + nsz s.1 ∧ dep g a 6 (0, 0) = s.1 + dep g a (6 - s.1) (s.2.2, s.1)) (fun s => 6 - s.1) (0, 0, 0) (by repeat (first | exact trivial | refine ⟨rfl, ?_⟩))
      ⟨Ext.refl _, Nat.zero_le _, hc.ne, hc.good, Nat.zero_le _, by dsimp only; rw [nsz_zero]; omega, by dsimp only; rw [Nat.zero_add]⟩ ?_
    rintro ⟨i, node, base⟩ w3 ⟨x3, hi, hnode, hG, h1, h2, hd⟩
    dsimp only at hi hnode hG h1 h2 hd ⊢
    obtain ⟨x, hx⟩ : ∃ x, N[node]? = some x := ⟨_, List.getElem?_eq_getElem hnode⟩
    obtain ⟨hx1, hx2⟩ := hW x (List.mem_of_getElem? hx)
    obtain ⟨hxn, hxf, _⟩ := hR.at_ node x hx
    obtain ⟨adN, rfl, hcN⟩ := hN.at hx
    have hcN3 : Cells w3 (adN.add (node * 4)) [.int .u64 x.inner, .int .u64 x.leaf, .int .i64 (ndC N node), .int .i64 (lfC N node)] := by rw [← hxn, ← hxf]; exact hcN.ext (x2.trans x3)
    have hdk := digN_lt a i
    have hb := and_one64 x.inner (digN a i) hx1
    have hlf := hR.leaf hx (show digN a i + 1 ≤ 64 from hdk)
    have hlfl := hR.lf_le (Nat.le_of_lt hnode)
    have hwl := way_leaf hG hnode hx h1 h2 hd
    have hwk := fun hb => way_kid hG hnode hx h1 h2 hd hb hR
    have hlk : lfC N node ≤ 4611686018427387904 := by omega
    have hdig := fun (w_ : World) => digitR_v a i w_ ha hi
    have hleaf := fun (w_ : World) (h : Ins w_ aL L) (hp : 0 < rankN x.leaf (digN a i + 1)) => leafR_v (some adN) aL N.length L cN cL x (ndC N node) (lfC N node) (digN a i) w_ h hx2 hdk hp (hlf hp) (by omega) hlk
    generalize hdd : digN a i = dg at *
    have hrn := rankN_le x.inner dg
    have hndn := hR.nd_le (Nat.le_of_lt hnode)
    have e1 : (ndC N node : Int) + (rankN x.inner dg : Int) = ((ndC N node + rankN x.inner dg : Nat) : Int) := by rw [Int.natCast_add]
    have k2 := k_b2.ext x3
    clear hdd hlf hlfl hlk hcN
    repeat (first | refine Vx ?_ | (apply Ops_q; (case hon => exact Va); (case hd => rfl); (case hq => exact YlA)) | refine Vt ?_ | refine Vf ?_ | refine Vm ?_ | refine Ve ?_ | refine Vo ?_ | refine Vz ?_ | refine Vn ?_)
    refine V_draw1 9 (by kernel_rfl) (by kernel_rfl) rfl rfl ?_
    repeat (first | refine Vx ?_ | (apply Ops_q; (case hon => exact Va); (case hd => rfl); (case hq => exact YlA)) | refine Vr ?_ | refine Vt ?_ | refine Vf ?_ | refine Vm ?_ | refine Ve ?_ | refine Vo ?_ | refine Vz ?_ | refine Vn ?_)
    (apply Ops_q; (case hon => (exact Va)); (case hd => rfl); (case hq => exact Yl_indexS (j := node) rfl rfl (by omega)))
    repeat (first | refine Vx ?_ | (apply Ops_q; (case hon => exact Va); (case hd => rfl); (case hq => exact YlA)) | refine Vr ?_ | refine Vt ?_ | refine Vf ?_ | refine Vm ?_ | refine Ve ?_ | refine Vo ?_ | refine Vz ?_ | refine Vn ?_)
    (apply Ops_q; (case hon => (exact Va)); (case hd => rfl); (case hq => exact Yl_call rfl (fun w_ e_ => hdig w_)))
    repeat (first | refine Vx ?_ | (apply Ops_q; (case hon => exact Va); (case hd => rfl); (case hq => exact YlA)) | refine Vr ?_ | refine Vt ?_ | refine Vf ?_ | refine Vm ?_ | refine Ve ?_ | refine Vo ?_ | refine Vz ?_ | refine Vn ?_)
    (intro w4 b8 n_b8; have k_b8 := n_b8.blk)
    repeat (first | refine Vx ?_ | (apply Ops_q; (case hon => exact Va); (case hd => rfl); (case hq => exact YlA)) | refine Vr ?_ | refine Vt ?_ | refine Vf ?_ | refine Vm ?_ | refine Ve ?_ | refine Vo ?_ | refine Vz ?_ | refine Vn ?_)
    (refine Ops_store (by exact Va) rfl rfl (by assumption) (by first | rfl | exact OneAll.h) ?_; intro w5 u_w5; have k_b8 := u_w5.blk)
    have x5 : Ext w3 w5 := u_w5.below n_b8.ext n_b8.ge
    replace k2 := k2.ext x5
    clear u_w5 n_b8
    repeat (first | refine Vx ?_ | (apply Ops_q; (case hon => exact Va); (case hd => rfl); (case hq => exact YlA)) | refine Vr ?_ | refine Vt ?_ | refine Vf ?_ | refine Vm ?_ | refine Ve ?_ | refine Vo ?_ | refine Vz ?_ | refine Vn ?_)
    by_cases hbit : x.inner / 2 ^ dg % 2 = 1
    · obtain ⟨q1, q2, q3, q4, q5, q6⟩ := hwk hbit
      have hd1 : decide (bits .and .u64 ((x.inner : Int) / 2 ^ ((dg : Nat) : Int).toNat) 1 = 0) = false := by rw [hb, hbit]; rfl
      clear hwl hb hleaf
      refine V_no rfl hd1 ?_
      repeat (first | refine Vx ?_ | (apply Ops_q; (case hon => exact Va); (case hd => rfl); (case hq => exact YlA)) | refine Vr ?_ | refine Vt ?_ | refine Vf ?_ | refine Vm ?_ | refine Ve ?_ | refine Vo ?_ | refine Vz ?_ | refine Vn ?_)
      (apply Ops_q; (case hon => (exact Va)); (case hd => rfl); (case hq => exact Yl_call rfl (fun w_ e_ => ronesR_v x.inner dg w_ hx1 (Nat.le_of_lt hdk))))
      repeat (first | refine Vx ?_ | (apply Ops_q; (case hon => exact Va); (case hd => rfl); (case hq => exact YlA)) | refine Vr ?_ | refine Vt ?_ | refine Vf ?_ | refine Vm ?_ | refine Ve ?_ | refine Vo ?_ | refine Vz ?_ | refine Vn ?_)
      rw [e1]
      repeat (first | refine Vx ?_ | (apply Ops_q; (case hon => exact Va); (case hd => rfl); (case hq => exact YlA)) | refine Vr ?_ | refine Vt ?_ | refine Vf ?_ | refine Vm ?_ | refine Ve ?_ | refine Vo ?_ | refine Vz ?_ | refine Vn ?_)
      exact ⟨(i + 1, ndC N node + rankN x.inner dg, digLo i base dg), (by repeat (first | exact trivial | refine ⟨rfl, ?_⟩)), ⟨x3.trans x5, q1, q2, q3, q4, q5, q6⟩, by simp only; omega⟩
    · obtain ⟨q1, q2, q3⟩ := hwl hbit
      have hd1 : decide (bits .and .u64 ((x.inner : Int) / 2 ^ ((dg : Nat) : Int).toNat) 1 = 0) = true := by rw [hb]; exact decide_eq_true (by omega)
      clear hwk hb
      refine V_yes rfl hd1 ?_
      repeat (first | refine Vx ?_ | (apply Ops_q; (case hon => exact Va); (case hd => rfl); (case hq => exact YlA)) | refine Vr ?_ | refine Vt ?_ | refine Vf ?_ | refine Vm ?_ | refine Ve ?_ | refine Vo ?_ | refine Vz ?_ | refine Vn ?_)
      (apply Ops_q; (case hon => (exact Va)); (case hd => rfl); (case hq => exact Yl_call rfl (fun w_ e_ => hleaf w_ (hL.ext (x2.trans (x3.trans (x5.trans e_)))) q1)))
      rw [q2]
      repeat (first | refine Vx ?_ | (apply Ops_q; (case hon => exact Va); (case hd => rfl); (case hq => exact YlA)) | refine Vr ?_ | refine Vt ?_ | refine Vf ?_ | refine Vm ?_ | refine Ve ?_ | refine Vo ?_ | refine Vz ?_ | refine Vn ?_)
      refine ret2 (by first | exact .inl rfl | exact .inr rfl) rfl rfl rfl ?_
      exact Gives_mk (fun _ _ => .inl ⟨g, hg, hc, by rw [q3, Int.natCast_add]; rfl⟩) (x2.trans (x3.trans x5))
  · have hd : (!decide ((if N.length = 0 then (3 : Int) else 1) = 0)) = true := by split <;> rfl
    repeat (first | refine Vx ?_ | (apply Ops_q; (case hon => exact Va); (case hd => rfl); (case hq => exact YlA)) | refine Vr ?_ | refine Vt ?_ | refine Vf ?_ | refine Vm ?_ | refine Ve ?_ | refine Vo ?_ | refine Vz ?_ | refine Vn ?_)
    refine V_yes rfl hd ?_
    repeat (first | refine Vx ?_ | (apply Ops_q; (case hon => exact Va); (case hd => rfl); (case hq => exact YlA)) | refine Vr ?_ | refine Vt ?_ | refine Vf ?_ | refine Vm ?_ | refine Ve ?_ | refine Vo ?_ | refine Vz ?_ | refine Vn ?_)
    refine ret2 (by first | exact .inl rfl | exact .inr rfl) rfl rfl rfl ?_
    exact Gives_mk (fun _ _ => .inr ⟨hno, rfl⟩) x2
end Go.Proofs.Ytjpnaofoeeegeaa


/-
  Stride tables (layer 8): pieces, Table.
  Conditions: the lists are not too long for a machine; the words are words of 64 bits.
-/
namespace Go.Proofs.Ytjpnaofoeeegeaa
open Go.RowKit

theorem halvesB_v (f x : Nat) (w : World) (hf : f + 1 ≤ 32) (hx : x % 2 ^ (f + 1) = 0) (hl : x < 4294967296) : Calls Try.prog 66 #[(pfB (f + 1) x).val] w (Ret (.tuple #[(pfB f x).val, (pfB f (x + 2 ^ f)).val, .bool true]) w) := by
  obtain ⟨k, hk⟩ : ∃ k, k = 32 - (f + 1) := ⟨_, rfl⟩
  have hk32 : k < 32 := by omega
  have ek : 32 - k = f + 1 := by omega
  have hval := (pfB_valid hf hx).1
  have htop : top x k = x := by
    have := (Pf.valid_iff.1 hval).2.2
    unfold pfB at this
    dsimp only at this
    rw [Int.toNat_natCast, ← hk] at this; exact this
  have e1 : pfB (f + 1) x = ⟨x, (k : Int)⟩ := by unfold pfB; rw [hk]
  have e2 : (⟨kidA x k 0, ((k + 1 : Nat) : Int)⟩ : Pf) = pfB f x := by unfold pfB kidA; rw [show k + 1 = 32 - f by omega]; simp
  have e3 : (⟨kidA x k 1, ((k + 1 : Nat) : Int)⟩ : Pf) = pfB f (x + 2 ^ f) := by unfold pfB kidA; rw [show k + 1 = 32 - f by omega, show 31 - k = f by omega]; simp
  rw [e1] at hval ⊢
  have hof0 : Pf.of x ((k : Int) + 1) = ⟨kidA x k 0, ((k + 1 : Nat) : Int)⟩ := by
    have h3 := (kid_top hk32 htop (bit := 0) (by omega)).1
    have h4 : kidA x k 0 = x := by unfold kidA; omega
    rw [h4] at h3
    rw [Pf.of, h4, show ((k : Int) + 1) = ((k + 1 : Nat) : Int) by omega, lowN_nat _ _ (by omega), h3]
  have hlast : (⟨x, (k : Int)⟩ : Pf).last = x + (2 ^ (32 - k) - 1) := by rw [Pf.last, if_pos hval]; simp
  have hof1 : Pf.of (⟨x, (k : Int)⟩ : Pf).last ((k : Int) + 1) = ⟨kidA x k 1, ((k + 1 : Nat) : Int)⟩ := by
    rw [Pf.of, hlast, show ((k : Int) + 1) = ((k + 1 : Nat) : Int) by omega, lowN_nat _ _ (by omega), last_kid htop hk32 hl]
  have hhalf := halves_v (⟨x, (k : Int)⟩ : Pf) w hl hval (by show (k : Int) < 32; omega)
  rw [hof0, hof1, e2, e3] at hhalf
  exact hhalf
/-- What pieces leaves. -/
def PcR (base : Nat) (M : List En) (v : Value) (w0 : World) (r : Value) (w' : World) : Prop :=
  Own w' base 42 3 r (M.map En.cells) ∧ ∀ c, r.ownBlock = some c → v.ownBlock = some c ∨ w0.heap.size ≤ c
def enP (value : Int) (l : List Pf) : List En := l.map fun p => ⟨p, value⟩
theorem pcs_two {lo hi f x : Nat} (h1 : ¬(x + (2 ^ (f + 1) - 1) < lo ∨ hi < x)) (h2 : ¬(lo ≤ x ∧ x + (2 ^ (f + 1) - 1) ≤ hi)) : pcs lo hi (f + 1) x = pcs lo hi f x ++ pcs lo hi f (x + 2 ^ f) := by rw [pcs, if_neg h1, if_neg h2]
theorem pcs_out {lo hi : Nat} : ∀ f x, (x + (2 ^ f - 1) < lo ∨ hi < x) → pcs lo hi f x = []
  | 0, x, h => by rw [pcs, if_pos (by simpa using h)]
  | f + 1, x, h => by rw [pcs, if_pos h]
theorem pcs_all {lo hi : Nat} : ∀ f x, ¬(x + (2 ^ f - 1) < lo ∨ hi < x) → lo ≤ x ∧ x + (2 ^ f - 1) ≤ hi → pcs lo hi f x = [pfB f x]
  | 0, x, h, _ => by rw [pcs, if_neg (by simpa using h)]
  | f + 1, x, h, h2 => by rw [pcs, if_neg h, if_pos h2]
set_option maxHeartbeats 2000000 in
theorem pieces_v (base lo hi : Nat) (value : Int) : ∀ f, f ≤ 32 → ∀ (x : Nat) (v : Value) (M : List En) (w : World), x % 2 ^ f = 0 → x + 2 ^ f ≤ 4294967296 → Own w base 42 3 v (M.map En.cells) → base ≤ w.heap.size → M.length + 2 ^ f ≤ 8589934592 →
    Calls Try.prog 57 #[v, (pfB f x).val, .int .u64 lo, .int .u64 hi, .int .i64 value] w (Does (fun c => v.ownBlock = some c) (PcR base (M ++ enP value (pcs lo hi f x)) v w) w) := by
  intro f
  induction f with
  | zero =>
    intro hf x v M w hx h32 hO hb hn
    obtain ⟨hval, hlast⟩ := pfB_valid hf hx
    have hg : 0 < 2 ^ 0 := Nat.two_pow_pos _
    have hxl : x < 4294967296 := by omega
    have hcl := fun w_ => last_v (pfB 0 x) w_ hxl
    have hpa : (pfB 0 x).a < 4294967296 := hxl
    rw [hlast] at hcl
    obtain ⟨to, hto⟩ : ∃ to, to = x + (2 ^ 0 - 1) := ⟨_, rfl⟩
    rw [← hto] at hcl
    have hO2 : ∃ a0 c0, v = .slice a0 M.length c0 := by obtain ⟨a, c, h, _⟩ := ownS hO; exact ⟨a, c, h⟩
    have hall := @pcs_all lo hi 0 x
    have hout := @pcs_out lo hi 0 x
    rw [← hto] at hall hout
    refine V_enter (vs := [_, _, _, _, _]) Try.func57 rfl Try.ntmps57 (Nat.le_of_ble_eq_true rfl) ?_
    repeat (first | refine Vx ?_ | (apply Ops_q; (case hon => exact Va); (case hd => rfl); (case hq => exact YlA)) | refine Vr ?_ | refine Vt ?_ | refine Vf ?_ | refine Vm ?_ | refine Ve ?_ | refine Vo ?_ | refine Vz ?_ | refine Vn ?_)
    (refine Ops_box (by exact Va) rfl rfl rfl ?_; intro w1 b6 n_b6; have k_b6 := n_b6.blk)
    have x1 := n_b6.ext
    have hO1 := hO.ext x1
    clear n_b6
    repeat (first | refine Vx ?_ | (apply Ops_q; (case hon => exact Va); (case hd => rfl); (case hq => exact YlA)) | refine Vr ?_ | refine Vt ?_ | refine Vf ?_ | refine Vm ?_ | refine Ve ?_ | refine Vo ?_ | refine Vz ?_ | refine Vn ?_)
    (apply Ops_q; (case hon => (exact Va)); (case hd => rfl); (case hq => exact Yl_call rfl (fun w_ e_ => hcl w_)))
    repeat (first | refine Vx ?_ | (apply Ops_q; (case hon => exact Va); (case hd => rfl); (case hq => exact YlA)) | refine Vr ?_ | refine Vt ?_ | refine Vf ?_ | refine Vm ?_ | refine Ve ?_ | refine Vo ?_ | refine Vz ?_ | refine Vn ?_)
    by_cases t1 : to < lo
    · have d1 : decide ((to : Int) < (lo : Int)) = true := decide_eq_true (by omega)
      refine Ops_know rfl rfl d1 ?_
      repeat (first | refine Vx ?_ | (apply Ops_q; (case hon => exact Va); (case hd => rfl); (case hq => exact YlA)) | refine Vr ?_ | refine Vt ?_ | refine Vf ?_ | refine Vm ?_ | refine Ve ?_ | refine Vo ?_ | refine Vz ?_ | refine Vn ?_)
      refine ret1 (by first | exact .inl rfl | exact .inr rfl) rfl rfl ?_
      refine Does_mk (fun w' he => ⟨?_, fun c hc => .inl hc⟩) (.of_ext x1)
      rw [hout (.inl t1), enP, List.map_nil, List.append_nil]; exact hO1.ext he
    have d1 : decide ((to : Int) < (lo : Int)) = false := decide_eq_false (by omega)
    refine Ops_know rfl rfl d1 ?_
    repeat (first | refine Vx ?_ | (apply Ops_q; (case hon => exact Va); (case hd => rfl); (case hq => exact YlA)) | refine Vr ?_ | refine Vt ?_ | refine Vf ?_ | refine Vm ?_ | refine Ve ?_ | refine Vo ?_ | refine Vz ?_ | refine Vn ?_)
    by_cases t2 : hi < x
    · have d2 : decide ((hi : Int) < (x : Int)) = true := decide_eq_true (by omega)
      refine V_yes rfl d2 ?_
      repeat (first | refine Vx ?_ | (apply Ops_q; (case hon => exact Va); (case hd => rfl); (case hq => exact YlA)) | refine Vr ?_ | refine Vt ?_ | refine Vf ?_ | refine Vm ?_ | refine Ve ?_ | refine Vo ?_ | refine Vz ?_ | refine Vn ?_)
      refine ret1 (by first | exact .inl rfl | exact .inr rfl) rfl rfl ?_
      refine Does_mk (fun w' he => ⟨?_, fun c hc => .inl hc⟩) (.of_ext x1)
      rw [hout (.inr t2), enP, List.map_nil, List.append_nil]; exact hO1.ext he
    have d2 : decide ((hi : Int) < (x : Int)) = false := decide_eq_false (by omega)
    refine V_no rfl d2 ?_
    have hno : ¬(to < lo ∨ hi < x) := fun h => h.elim t1 t2
    clear d1 d2 hout
    have hyes : lo ≤ x ∧ to ≤ hi → ∀ (a b : Nat) (w2 w3 : World) (v2 : Value), Ext w w2 → Own w3 base 42 3 v2 (M.map En.cells ++ [[.int .u32 (pfB 0 x).a, .int .i64 (pfB 0 x).n, .int .i64 value]]) → w2.grownBy w3 v.ownBlock → (v2.ownBlock = v.ownBlock ∨ ∃ b, v2.ownBlock = some b ∧ w2.heap.size ≤ b) → ∀ w', Ext w3 w' → Does (fun c => v.ownBlock = some c) (PcR base (M ++ enP value (pcs lo hi 0 x)) v w) w (.returned v2) w' := fun h3 _ _ w2 w3 v2 e2 o3 g3 d3 => by
      refine Does_mk (fun w' he => ⟨?_, fun c hc => ?_⟩) ((Mod.of_ext e2).grow g3 (fun b hb => .inl hb))
      · rw [hall hno h3, enP, List.map_append]; exact o3.ext he
      · rcases d3 with h | ⟨b, h, h'⟩
        · rw [h] at hc; exact .inl hc
        · rw [h] at hc; cases hc; exact .inr (Nat.le_trans e2.size h')
    have e0 : to = x := by rw [hto]; simp
    have t3 : lo ≤ x := by omega
    have t4 : to ≤ hi := by omega
    have d3 : decide ((lo : Int) ≤ (x : Int)) = true := decide_eq_true (by omega)
    have d4 : decide ((to : Int) ≤ (hi : Int)) = true := decide_eq_true (by omega)
    repeat (first | refine Vx ?_ | (apply Ops_q; (case hon => exact Va); (case hd => rfl); (case hq => exact YlA)) | refine Vr ?_ | refine Vt ?_ | refine Vf ?_ | refine Vm ?_ | refine Ve ?_ | refine Vo ?_ | refine Vz ?_ | refine Vn ?_)
    refine Ops_know rfl rfl d3 ?_
    repeat (first | refine Vx ?_ | (apply Ops_q; (case hon => exact Va); (case hd => rfl); (case hq => exact YlA)) | refine Vr ?_ | refine Vt ?_ | refine Vf ?_ | refine Vm ?_ | refine Ve ?_ | refine Vo ?_ | refine Vz ?_ | refine Vn ?_)
    refine V_yes rfl d4 ?_
    repeat (first | refine Vx ?_ | (apply Ops_q; (case hon => exact Va); (case hd => rfl); (case hq => exact YlA)) | refine Vr ?_ | refine Vt ?_ | refine Vf ?_ | refine Vm ?_ | refine Ve ?_ | refine Vo ?_ | refine Vz ?_ | refine Vn ?_)
    (refine Ops_lit (by exact Va) rfl rfl rfl ?_; intro w2 b2 n_b2; have k_b2 := n_b2.blk)
    have o2 := hO1.ext n_b2.ext
    have hlen : (M.map En.cells).length ≤ 8589934592 := by rw [List.length_map]; omega
    repeat (first | refine Vx ?_ | (apply Ops_q; (case hon => exact Va); (case hd => rfl); (case hq => exact YlA)) | refine Vr ?_ | refine Vt ?_ | refine Vf ?_ | refine Vm ?_ | refine Ve ?_ | refine Vo ?_ | refine Vz ?_ | refine Vn ?_)
    (refine Ops_append1 (by exact Va) rfl rfl rfl rfl o2 k_b2.cells inferInstance inferInstance (by first | omega | (rw [List.length_map]; omega)) rfl (Nat.le_trans hb (x1.trans n_b2.ext).size) ?_; intro v2 w3 o_v2 g_w3 d_v2)
    repeat (first | refine Vx ?_ | (apply Ops_q; (case hon => exact Va); (case hd => rfl); (case hq => exact YlA)) | refine Vr ?_ | refine Vt ?_ | refine Vf ?_ | refine Vm ?_ | refine Ve ?_ | refine Vo ?_ | refine Vz ?_ | refine Vn ?_)
    refine ret1 (by first | exact .inl rfl | exact .inr rfl) rfl rfl ?_
    exact hyes ⟨t3, t4⟩ 0 0 w2 w3 v2 (x1.trans n_b2.ext) o_v2 g_w3 d_v2
  | succ f ih =>
    intro hf x v M w hx h32 hO hb hn
    obtain ⟨hval, hlast⟩ := pfB_valid hf hx
    have hg : 0 < 2 ^ (f + 1) := Nat.two_pow_pos _
    have hxl : x < 4294967296 := by omega
    have hcl := fun w_ => last_v (pfB (f + 1) x) w_ hxl
    have hpa : (pfB (f + 1) x).a < 4294967296 := hxl
    rw [hlast] at hcl
    obtain ⟨to, hto⟩ : ∃ to, to = x + (2 ^ (f + 1) - 1) := ⟨_, rfl⟩
    rw [← hto] at hcl
    have hO2 : ∃ a0 c0, v = .slice a0 M.length c0 := by obtain ⟨a, c, h, _⟩ := ownS hO; exact ⟨a, c, h⟩
    have hall := @pcs_all lo hi (f + 1) x
    have hout := @pcs_out lo hi (f + 1) x
    rw [← hto] at hall hout
    refine V_enter (vs := [_, _, _, _, _]) Try.func57 rfl Try.ntmps57 (Nat.le_of_ble_eq_true rfl) ?_
    repeat (first | refine Vx ?_ | (apply Ops_q; (case hon => exact Va); (case hd => rfl); (case hq => exact YlA)) | refine Vr ?_ | refine Vt ?_ | refine Vf ?_ | refine Vm ?_ | refine Ve ?_ | refine Vo ?_ | refine Vz ?_ | refine Vn ?_)
    (refine Ops_box (by exact Va) rfl rfl rfl ?_; intro w1 b6 n_b6; have k_b6 := n_b6.blk)
    have x1 := n_b6.ext
    have hO1 := hO.ext x1
    clear n_b6
    repeat (first | refine Vx ?_ | (apply Ops_q; (case hon => exact Va); (case hd => rfl); (case hq => exact YlA)) | refine Vr ?_ | refine Vt ?_ | refine Vf ?_ | refine Vm ?_ | refine Ve ?_ | refine Vo ?_ | refine Vz ?_ | refine Vn ?_)
    (apply Ops_q; (case hon => (exact Va)); (case hd => rfl); (case hq => exact Yl_call rfl (fun w_ e_ => hcl w_)))
    repeat (first | refine Vx ?_ | (apply Ops_q; (case hon => exact Va); (case hd => rfl); (case hq => exact YlA)) | refine Vr ?_ | refine Vt ?_ | refine Vf ?_ | refine Vm ?_ | refine Ve ?_ | refine Vo ?_ | refine Vz ?_ | refine Vn ?_)
    by_cases t1 : to < lo
    · have d1 : decide ((to : Int) < (lo : Int)) = true := decide_eq_true (by omega)
      refine Ops_know rfl rfl d1 ?_
      repeat (first | refine Vx ?_ | (apply Ops_q; (case hon => exact Va); (case hd => rfl); (case hq => exact YlA)) | refine Vr ?_ | refine Vt ?_ | refine Vf ?_ | refine Vm ?_ | refine Ve ?_ | refine Vo ?_ | refine Vz ?_ | refine Vn ?_)
      refine ret1 (by first | exact .inl rfl | exact .inr rfl) rfl rfl ?_
      refine Does_mk (fun w' he => ⟨?_, fun c hc => .inl hc⟩) (.of_ext x1)
      rw [hout (.inl t1), enP, List.map_nil, List.append_nil]; exact hO1.ext he
    have d1 : decide ((to : Int) < (lo : Int)) = false := decide_eq_false (by omega)
    refine Ops_know rfl rfl d1 ?_
    repeat (first | refine Vx ?_ | (apply Ops_q; (case hon => exact Va); (case hd => rfl); (case hq => exact YlA)) | refine Vr ?_ | refine Vt ?_ | refine Vf ?_ | refine Vm ?_ | refine Ve ?_ | refine Vo ?_ | refine Vz ?_ | refine Vn ?_)
    by_cases t2 : hi < x
    · have d2 : decide ((hi : Int) < (x : Int)) = true := decide_eq_true (by omega)
      refine V_yes rfl d2 ?_
      repeat (first | refine Vx ?_ | (apply Ops_q; (case hon => exact Va); (case hd => rfl); (case hq => exact YlA)) | refine Vr ?_ | refine Vt ?_ | refine Vf ?_ | refine Vm ?_ | refine Ve ?_ | refine Vo ?_ | refine Vz ?_ | refine Vn ?_)
      refine ret1 (by first | exact .inl rfl | exact .inr rfl) rfl rfl ?_
      refine Does_mk (fun w' he => ⟨?_, fun c hc => .inl hc⟩) (.of_ext x1)
      rw [hout (.inr t2), enP, List.map_nil, List.append_nil]; exact hO1.ext he
    have d2 : decide ((hi : Int) < (x : Int)) = false := decide_eq_false (by omega)
    refine V_no rfl d2 ?_
    have hno : ¬(to < lo ∨ hi < x) := fun h => h.elim t1 t2
    clear d1 d2 hout
    have hyes : lo ≤ x ∧ to ≤ hi → ∀ (a b : Nat) (w2 w3 : World) (v2 : Value), Ext w w2 → Own w3 base 42 3 v2 (M.map En.cells ++ [[.int .u32 (pfB (f + 1) x).a, .int .i64 (pfB (f + 1) x).n, .int .i64 value]]) → w2.grownBy w3 v.ownBlock → (v2.ownBlock = v.ownBlock ∨ ∃ b, v2.ownBlock = some b ∧ w2.heap.size ≤ b) → ∀ w', Ext w3 w' → Does (fun c => v.ownBlock = some c) (PcR base (M ++ enP value (pcs lo hi (f + 1) x)) v w) w (.returned v2) w' := fun h3 _ _ w2 w3 v2 e2 o3 g3 d3 => by
      refine Does_mk (fun w' he => ⟨?_, fun c hc => ?_⟩) ((Mod.of_ext e2).grow g3 (fun b hb => .inl hb))
      · rw [hall hno h3, enP, List.map_append]; exact o3.ext he
      · rcases d3 with h | ⟨b, h, h'⟩
        · rw [h] at hc; exact .inl hc
        · rw [h] at hc; cases hc; exact .inr (Nat.le_trans e2.size h')
    have e2 : 2 ^ (f + 1) = 2 ^ f + 2 ^ f := by rw [Nat.pow_succ]; omega
    have hg2 : 0 < 2 ^ f := Nat.two_pow_pos f
    obtain ⟨al1, al2⟩ := al_half hx
    have hrest : ¬(lo ≤ x ∧ to ≤ hi) → pcs lo hi (f + 1) x = pcs lo hi f x ++ pcs lo hi f (x + 2 ^ f) := fun h => by rw [hto] at hno h; exact pcs_two hno h
    have hhv := fun w_ => halvesB_v f x w_ hf hx hxl
    have hlen1 : (enP value (pcs lo hi f x)).length ≤ 2 ^ f := by
      rw [enP, List.length_map]
      have := pcs_len (lo := lo) (hi := hi) f x
      omega
    have ih1 := fun (w_ : World) (e_ : Ext w w_) => ih (by omega) x v M w_ al1 (by omega) (hO.ext e_) (Nat.le_trans hb e_.size) (by omega)
    have ih2 := fun (v' : Value) (w_ : World) (h1 : Own w_ base 42 3 v' ((M ++ enP value (pcs lo hi f x)).map En.cells)) (h2 : base ≤ w_.heap.size) => ih (by omega) (x + 2 ^ f) v' (M ++ enP value (pcs lo hi f x)) w_ al2 (by omega) h1 h2 (by rw [List.length_append]; omega)
    clear ih hlen1 al1 al2 e2
    repeat (first | refine Vx ?_ | (apply Ops_q; (case hon => exact Va); (case hd => rfl); (case hq => exact YlA)) | refine Vr ?_ | refine Vt ?_ | refine Vf ?_ | refine Vm ?_ | refine Ve ?_ | refine Vo ?_ | refine Vz ?_ | refine Vn ?_)
    by_cases t3 : lo ≤ x
    · have d3 : decide ((lo : Int) ≤ (x : Int)) = true := decide_eq_true (by omega)
      refine Ops_know rfl rfl d3 ?_
      repeat (first | refine Vx ?_ | (apply Ops_q; (case hon => exact Va); (case hd => rfl); (case hq => exact YlA)) | refine Vr ?_ | refine Vt ?_ | refine Vf ?_ | refine Vm ?_ | refine Ve ?_ | refine Vo ?_ | refine Vz ?_ | refine Vn ?_)
      by_cases t4 : to ≤ hi
      · have d4 : decide ((to : Int) ≤ (hi : Int)) = true := decide_eq_true (by omega)
        refine V_yes rfl d4 ?_
        repeat (first | refine Vx ?_ | (apply Ops_q; (case hon => exact Va); (case hd => rfl); (case hq => exact YlA)) | refine Vr ?_ | refine Vt ?_ | refine Vf ?_ | refine Vm ?_ | refine Ve ?_ | refine Vo ?_ | refine Vz ?_ | refine Vn ?_)
        (refine Ops_lit (by exact Va) rfl rfl rfl ?_; intro w2 b2 n_b2; have k_b2 := n_b2.blk)
        have o2 := hO1.ext n_b2.ext
        have hlen : (M.map En.cells).length ≤ 8589934592 := by rw [List.length_map]; omega
        repeat (first | refine Vx ?_ | (apply Ops_q; (case hon => exact Va); (case hd => rfl); (case hq => exact YlA)) | refine Vr ?_ | refine Vt ?_ | refine Vf ?_ | refine Vm ?_ | refine Ve ?_ | refine Vo ?_ | refine Vz ?_ | refine Vn ?_)
        (refine Ops_append1 (by exact Va) rfl rfl rfl rfl o2 k_b2.cells inferInstance inferInstance (by first | omega | (rw [List.length_map]; omega)) rfl (Nat.le_trans hb (x1.trans n_b2.ext).size) ?_; intro v2 w3 o_v2 g_w3 d_v2)
        repeat (first | refine Vx ?_ | (apply Ops_q; (case hon => exact Va); (case hd => rfl); (case hq => exact YlA)) | refine Vr ?_ | refine Vt ?_ | refine Vf ?_ | refine Vm ?_ | refine Ve ?_ | refine Vo ?_ | refine Vz ?_ | refine Vn ?_)
        refine ret1 (by first | exact .inl rfl | exact .inr rfl) rfl rfl ?_
        exact hyes ⟨t3, t4⟩ 0 0 w2 w3 v2 (x1.trans n_b2.ext) o_v2 g_w3 d_v2
      · have d4 : decide ((to : Int) ≤ (hi : Int)) = false := decide_eq_false (by omega)
        have hnot : ¬(lo ≤ x ∧ to ≤ hi) := fun h => t4 h.2
        refine V_no rfl d4 ?_
        repeat (first | refine Vx ?_ | (apply Ops_q; (case hon => exact Va); (case hd => rfl); (case hq => exact YlA)) | refine Vr ?_ | refine Vt ?_ | refine Vf ?_ | refine Vm ?_ | refine Ve ?_ | refine Vo ?_ | refine Vz ?_ | refine Vn ?_)
        (apply Ops_q; (case hon => (exact Va)); (case hd => rfl); (case hq => exact Yl_call rfl (fun w_ e_ => hhv w_)))
        repeat (first | refine Vx ?_ | (apply Ops_q; (case hon => exact Va); (case hd => rfl); (case hq => exact YlA)) | refine Vr ?_ | refine Vt ?_ | refine Vf ?_ | refine Vm ?_ | refine Ve ?_ | refine Vo ?_ | refine Vz ?_ | refine Vn ?_)
        (refine Ops_alloc (by exact Va) rfl ?_; intro w2 b2 n_b2; have k_b2 := n_b2.blk)
        repeat (first | refine Vx ?_ | (apply Ops_q; (case hon => exact Va); (case hd => rfl); (case hq => exact YlA)) | refine Vr ?_ | refine Vt ?_ | refine Vf ?_ | refine Vm ?_ | refine Ve ?_ | refine Vo ?_ | refine Vz ?_ | refine Vn ?_)
        (refine Ops_alloc (by exact Va) rfl ?_; intro w3 b3 n_b3; have k_b3 := n_b3.blk)
        have n23 : b2 ≠ b3 := Nat.ne_of_lt (Nat.lt_of_lt_of_le k_b2.lt n_b3.ge)
        have x2 := x1.trans n_b2.ext
        have x3 := x2.trans n_b3.ext
        have g2 : w.heap.size ≤ b2 := Nat.le_trans x1.size n_b2.ge
        have g3 : w.heap.size ≤ b3 := Nat.le_trans x2.size n_b3.ge
        replace k_b2 := k_b2.ext n_b3.ext
        clear n_b2 n_b3
        repeat (first | refine Vx ?_ | (apply Ops_q; (case hon => exact Va); (case hd => rfl); (case hq => exact YlA)) | refine Vr ?_ | refine Vt ?_ | refine Vf ?_ | refine Vm ?_ | refine Ve ?_ | refine Vo ?_ | refine Vz ?_ | refine Vn ?_)
        (refine Ops_store (by exact Va) rfl rfl (by assumption) (by first | rfl | exact OneAll.h) ?_; intro w4 u_w4; have k_b2 := u_w4.blk)
        replace k_b3 := u_w4.keep k_b3 (Ne.symm n23)
        have x4 := u_w4.below x3 g2
        clear u_w4
        repeat (first | refine Vx ?_ | (apply Ops_q; (case hon => exact Va); (case hd => rfl); (case hq => exact YlA)) | refine Vr ?_ | refine Vt ?_ | refine Vf ?_ | refine Vm ?_ | refine Ve ?_ | refine Vo ?_ | refine Vz ?_ | refine Vn ?_)
        (refine Ops_store (by exact Va) rfl rfl (by assumption) (by first | rfl | exact OneAll.h) ?_; intro w5 u_w5; have k_b3 := u_w5.blk)
        replace k_b2 := u_w5.keep k_b2 n23
        have x5 := u_w5.below x4 g3
        clear u_w5
        obtain ⟨a0, c0, rfl⟩ := hO2
        repeat (first | refine Vx ?_ | (apply Ops_q; (case hon => exact Va); (case hd => rfl); (case hq => exact YlA)) | refine Vr ?_ | refine Vt ?_ | refine Vf ?_ | refine Vm ?_ | refine Ve ?_ | refine Vo ?_ | refine Vz ?_ | refine Vn ?_)
        refine Ops_callM (S := fun c => (Value.slice a0 M.length c0).ownBlock = some c) (R := fun w0 => PcR base (M ++ enP value (pcs lo hi f x)) (.slice a0 M.length c0) w0) (by exact Va) rfl rfl (fun w_ e_ => ih1 w_ (x5.trans e_)) ?_
        intro v6 w6 w0_ e0 m6 hR
        obtain ⟨o6, f6⟩ := hR
        have m56 : Mod (fun c => (Value.slice a0 M.length c0).ownBlock = some c) w5 w6 := (Mod.of_ext e0).trans m6
        have hO5 := hO.ext x5
        have k3 := m56.blk k_b3 (own_blk_ne hO5 k_b3 rfl)
        have mw6 : Mod (fun c => (Value.slice a0 M.length c0).ownBlock = some c) w w6 := (Mod.of_ext x5).trans m56
        have hb6 : base ≤ w6.heap.size := Nat.le_trans hb mw6.size
        repeat (first | refine Vx ?_ | (apply Ops_q; (case hon => exact Va); (case hd => rfl); (case hq => exact YlA)) | refine Vr ?_ | refine Vt ?_ | refine Vf ?_ | refine Vm ?_ | refine Ve ?_ | refine Vo ?_ | refine Vz ?_ | refine Vn ?_)
        refine Ops_callM (S := fun c => v6.ownBlock = some c) (R := fun w0 => PcR base ((M ++ enP value (pcs lo hi f x)) ++ enP value (pcs lo hi f (x + 2 ^ f))) v6 w0) (by exact Va) rfl rfl (fun w_ e_ => ih2 v6 w_ (o6.ext e_) (Nat.le_trans hb6 e_.size)) ?_
        intro v7 w7 w0_' e0' m7 hR
        obtain ⟨o7, f7⟩ := hR
        have m67 : Mod (fun c => v6.ownBlock = some c) w6 w7 := (Mod.of_ext e0').trans m7
        have f6' : ∀ c, v6.ownBlock = some c → (Value.slice a0 M.length c0).ownBlock = some c ∨ w.heap.size ≤ c := fun c hc => (f6 c hc).imp id (fun h => Nat.le_trans (x5.trans e0).size h)
        repeat (first | refine Vx ?_ | (apply Ops_q; (case hon => exact Va); (case hd => rfl); (case hq => exact YlA)) | refine Vr ?_ | refine Vt ?_ | refine Vf ?_ | refine Vm ?_ | refine Ve ?_ | refine Vo ?_ | refine Vz ?_ | refine Vn ?_)
        refine ret1 (by first | exact .inl rfl | exact .inr rfl) rfl rfl ?_
        refine Does_mk (fun w' he => ⟨?_, fun c hc => ?_⟩) (mw6.trans' m67 f6')
        · have : M ++ enP value (pcs lo hi (f + 1) x) = (M ++ enP value (pcs lo hi f x)) ++ enP value (pcs lo hi f (x + 2 ^ f)) := by
            rw [hrest hnot, enP, List.map_append, List.append_assoc]; rfl
          rw [this]; exact o7.ext he
        · rcases f7 c hc with h | h
          · exact f6' c h
          · exact .inr (Nat.le_trans (Nat.le_trans mw6.size e0'.size) h)
    · have d3 : decide ((lo : Int) ≤ (x : Int)) = false := decide_eq_false (by omega)
      have hnot : ¬(lo ≤ x ∧ to ≤ hi) := fun h => t3 h.1
      refine Ops_know rfl rfl d3 ?_
      repeat (first | refine Vx ?_ | (apply Ops_q; (case hon => exact Va); (case hd => rfl); (case hq => exact YlA)) | refine Vr ?_ | refine Vt ?_ | refine Vf ?_ | refine Vm ?_ | refine Ve ?_ | refine Vo ?_ | refine Vz ?_ | refine Vn ?_)
      (apply Ops_q; (case hon => (exact Va)); (case hd => rfl); (case hq => exact Yl_call rfl (fun w_ e_ => hhv w_)))
      repeat (first | refine Vx ?_ | (apply Ops_q; (case hon => exact Va); (case hd => rfl); (case hq => exact YlA)) | refine Vr ?_ | refine Vt ?_ | refine Vf ?_ | refine Vm ?_ | refine Ve ?_ | refine Vo ?_ | refine Vz ?_ | refine Vn ?_)
      (refine Ops_alloc (by exact Va) rfl ?_; intro w2 b2 n_b2; have k_b2 := n_b2.blk)
      repeat (first | refine Vx ?_ | (apply Ops_q; (case hon => exact Va); (case hd => rfl); (case hq => exact YlA)) | refine Vr ?_ | refine Vt ?_ | refine Vf ?_ | refine Vm ?_ | refine Ve ?_ | refine Vo ?_ | refine Vz ?_ | refine Vn ?_)
      (refine Ops_alloc (by exact Va) rfl ?_; intro w3 b3 n_b3; have k_b3 := n_b3.blk)
      have n23 : b2 ≠ b3 := Nat.ne_of_lt (Nat.lt_of_lt_of_le k_b2.lt n_b3.ge)
      have x2 := x1.trans n_b2.ext
      have x3 := x2.trans n_b3.ext
      have g2 : w.heap.size ≤ b2 := Nat.le_trans x1.size n_b2.ge
      have g3 : w.heap.size ≤ b3 := Nat.le_trans x2.size n_b3.ge
      replace k_b2 := k_b2.ext n_b3.ext
      clear n_b2 n_b3
      repeat (first | refine Vx ?_ | (apply Ops_q; (case hon => exact Va); (case hd => rfl); (case hq => exact YlA)) | refine Vr ?_ | refine Vt ?_ | refine Vf ?_ | refine Vm ?_ | refine Ve ?_ | refine Vo ?_ | refine Vz ?_ | refine Vn ?_)
      (refine Ops_store (by exact Va) rfl rfl (by assumption) (by first | rfl | exact OneAll.h) ?_; intro w4 u_w4; have k_b2 := u_w4.blk)
      replace k_b3 := u_w4.keep k_b3 (Ne.symm n23)
      have x4 := u_w4.below x3 g2
      clear u_w4
      repeat (first | refine Vx ?_ | (apply Ops_q; (case hon => exact Va); (case hd => rfl); (case hq => exact YlA)) | refine Vr ?_ | refine Vt ?_ | refine Vf ?_ | refine Vm ?_ | refine Ve ?_ | refine Vo ?_ | refine Vz ?_ | refine Vn ?_)
      (refine Ops_store (by exact Va) rfl rfl (by assumption) (by first | rfl | exact OneAll.h) ?_; intro w5 u_w5; have k_b3 := u_w5.blk)
      replace k_b2 := u_w5.keep k_b2 n23
      have x5 := u_w5.below x4 g3
      clear u_w5
      obtain ⟨a0, c0, rfl⟩ := hO2
      repeat (first | refine Vx ?_ | (apply Ops_q; (case hon => exact Va); (case hd => rfl); (case hq => exact YlA)) | refine Vr ?_ | refine Vt ?_ | refine Vf ?_ | refine Vm ?_ | refine Ve ?_ | refine Vo ?_ | refine Vz ?_ | refine Vn ?_)
      refine Ops_callM (S := fun c => (Value.slice a0 M.length c0).ownBlock = some c) (R := fun w0 => PcR base (M ++ enP value (pcs lo hi f x)) (.slice a0 M.length c0) w0) (by exact Va) rfl rfl (fun w_ e_ => ih1 w_ (x5.trans e_)) ?_
      intro v6 w6 w0_ e0 m6 hR
      obtain ⟨o6, f6⟩ := hR
      have m56 : Mod (fun c => (Value.slice a0 M.length c0).ownBlock = some c) w5 w6 := (Mod.of_ext e0).trans m6
      have hO5 := hO.ext x5
      have k3 := m56.blk k_b3 (own_blk_ne hO5 k_b3 rfl)
      have mw6 : Mod (fun c => (Value.slice a0 M.length c0).ownBlock = some c) w w6 := (Mod.of_ext x5).trans m56
      have hb6 : base ≤ w6.heap.size := Nat.le_trans hb mw6.size
      repeat (first | refine Vx ?_ | (apply Ops_q; (case hon => exact Va); (case hd => rfl); (case hq => exact YlA)) | refine Vr ?_ | refine Vt ?_ | refine Vf ?_ | refine Vm ?_ | refine Ve ?_ | refine Vo ?_ | refine Vz ?_ | refine Vn ?_)
      refine Ops_callM (S := fun c => v6.ownBlock = some c) (R := fun w0 => PcR base ((M ++ enP value (pcs lo hi f x)) ++ enP value (pcs lo hi f (x + 2 ^ f))) v6 w0) (by exact Va) rfl rfl (fun w_ e_ => ih2 v6 w_ (o6.ext e_) (Nat.le_trans hb6 e_.size)) ?_
      intro v7 w7 w0_' e0' m7 hR
      obtain ⟨o7, f7⟩ := hR
      have m67 : Mod (fun c => v6.ownBlock = some c) w6 w7 := (Mod.of_ext e0').trans m7
      have f6' : ∀ c, v6.ownBlock = some c → (Value.slice a0 M.length c0).ownBlock = some c ∨ w.heap.size ≤ c := fun c hc => (f6 c hc).imp id (fun h => Nat.le_trans (x5.trans e0).size h)
      repeat (first | refine Vx ?_ | (apply Ops_q; (case hon => exact Va); (case hd => rfl); (case hq => exact YlA)) | refine Vr ?_ | refine Vt ?_ | refine Vf ?_ | refine Vm ?_ | refine Ve ?_ | refine Vo ?_ | refine Vz ?_ | refine Vn ?_)
      refine ret1 (by first | exact .inl rfl | exact .inr rfl) rfl rfl ?_
      refine Does_mk (fun w' he => ⟨?_, fun c hc => ?_⟩) (mw6.trans' m67 f6')
      · have : M ++ enP value (pcs lo hi (f + 1) x) = (M ++ enP value (pcs lo hi f x)) ++ enP value (pcs lo hi f (x + 2 ^ f)) := by
          rw [hrest hnot, enP, List.map_append, List.append_assoc]; rfl
        rw [this]; exact o7.ext he
      · rcases f7 c hc with h | h
        · exact f6' c h
        · exact .inr (Nat.le_trans (Nat.le_trans mw6.size e0'.size) h)
/-- What Table returns. -/
def TblR (N : List Nd) (L : List Int) (w0 : World) (r : Value) (w' : World) : Prop :=
  (∃ (R : List Rn) (g : Nat → Int) (v : Value), Canon g R 4294967296 ∧ GeM g ∧ IsCf g N L ∧ r = .tuple #[v, .int .i64 0] ∧ Own w' w0.heap.size 42 3 v ((tabE R R.length).map En.cells)) ∨
  ((∀ g, GeM g → ¬IsCf g N L) ∧ r = .tuple #[.slice none 0 0, .int .i64 (if N.length = 0 then 3 else 1)])
set_option maxHeartbeats 2000000 in
theorem tableS_v (aN aL : Option Addr) (N : List Nd) (L : List Int) (cN cL : Nat) (w : World) (hN : Nds w aN N) (hL : Ins w aL L) (hW : NdW N) (hn : N.length ≤ 80000000000) (hl : L.length ≤ 4611686018427387904) :
    Calls Try.prog 24 #[.agg #[.slice aN N.length cN, .slice aL L.length cL]] w (Gives (TblR N L w) w) := by
  refine V_enter (vs := [_]) Try.func24 rfl Try.ntmps24 (Nat.le_of_ble_eq_true rfl) ?_
  repeat (first | refine Vx ?_ | (apply Ops_q; (case hon => exact Va); (case hd => rfl); (case hq => exact YlA)) | refine Vr ?_ | refine Vt ?_ | refine Vf ?_ | refine Vm ?_ | refine Ve ?_ | refine Vo ?_ | refine Vz ?_ | refine Vn ?_)
  (refine Ops_box (by exact Va) rfl rfl rfl ?_; intro w1 b1 n_b1; have k_b1 := n_b1.blk)
  have x1 := n_b1.ext
  clear n_b1
  repeat (first | refine Vx ?_ | (apply Ops_q; (case hon => exact Va); (case hd => rfl); (case hq => exact YlA)) | refine Vr ?_ | refine Vt ?_ | refine Vf ?_ | refine Vm ?_ | refine Ve ?_ | refine Vo ?_ | refine Vz ?_ | refine Vn ?_)
  (refine Ops_callR (by exact Va) rfl rfl (fun w_ e_ => checkS_v aN aL N L cN cL w_ (hN.ext (x1.trans e_)) (hL.ext (x1.trans e_)) hW hn hl) ?_; intro vr w2 w0_ e0_ e1_ r_vr; have e_w2 := e0_.trans e1_; have b_vr := e0_.size; clear e0_ e1_)
  obtain ⟨v, rfl, hv⟩ := r_vr
  have x2 := x1.trans e_w2
  replace k_b1 := k_b1.ext e_w2
  clear b_vr e_w2 x1
  repeat (first | refine Vx ?_ | (apply Ops_q; (case hon => exact Va); (case hd => rfl); (case hq => exact YlA)) | refine Vr ?_ | refine Vt ?_ | refine Vf ?_ | refine Vm ?_ | refine Ve ?_ | refine Vo ?_ | refine Vz ?_ | refine Vn ?_)
  rcases hv with ⟨rfl, g0, hg0, hc0⟩ | ⟨rfl, hno⟩
  · repeat (first | refine Vx ?_ | (apply Ops_q; (case hon => exact Va); (case hd => rfl); (case hq => exact YlA)) | refine Vr ?_ | refine Vt ?_ | refine Vf ?_ | refine Vm ?_ | refine Ve ?_ | refine Vo ?_ | refine Vz ?_ | refine Vn ?_)
    (refine Ops_callR (by exact Va) rfl rfl (fun w_ e_ => decode_v aN aL N L cN cL w_ (hN.ext (x2.trans e_)) (hL.ext (x2.trans e_)) hW hn hl) ?_; intro vr w3 w0_ e0_ e1_ r_vr; have e_w3 := e0_.trans e1_; have b_vr := e0_.size; clear e0_ e1_)
    obtain ⟨vR, ok, rfl, hok1, hok0⟩ := r_vr
    cases ok with
    | false => exact absurd hc0 (hok0 rfl g0 hg0)
    | true =>
      obtain ⟨R, g, oR, hC, hcf, hg⟩ := hok1 rfl
      obtain ⟨aR, cR, rfl, hAR⟩ := ownS oR
      have hAR' : Rns w3 aR R := hAR
      have x3 := x2.trans e_w3
      have hRl := hC.len
      clear hok1 hok0 b_vr e_w3 oR hAR k_b1
      repeat (first | refine Vx ?_ | (apply Ops_q; (case hon => exact Va); (case hd => rfl); (case hq => exact YlA)) | refine Vr ?_ | refine Vt ?_ | refine Vf ?_ | refine Vm ?_ | refine Ve ?_ | refine Vo ?_ | refine Vz ?_ | refine Vn ?_)
      refine V_loop (fun s : Nat × Value => [(23, .int .i64 s.1), (22, .int .i64 R.length), (21, .slice aR R.length cR), (5, .slice aR R.length cR), (7, s.2)])
        (fun s w' => s.1 ≤ R.length ∧ Ext w3 w' ∧ Own w' w3.heap.size 42 3 s.2 ((tabE R s.1).map En.cells)) (fun s => R.length - s.1) (0, .slice none 0 0) (by repeat (first | exact trivial | refine ⟨rfl, ?_⟩)) ⟨Nat.zero_le _, Ext.refl _, Own.nil⟩ ?_
      rintro ⟨i, v⟩ w4 ⟨hi, x4, oT⟩
      dsimp only at hi oT ⊢
      repeat (first | refine Vx ?_ | (apply Ops_q; (case hon => exact Va); (case hd => rfl); (case hq => exact YlA)) | refine Vr ?_ | refine Vt ?_ | refine Vf ?_ | refine Vm ?_ | refine Ve ?_ | refine Vo ?_ | refine Vz ?_ | refine Vn ?_)
      refine V_cond rfl (fun hgd => ?_) (fun hgd => ?_)
      · have hil : i < R.length := by have := of_decide_eq_true hgd; omega
        clear hgd
        obtain ⟨r, hr⟩ : ∃ r, R[i]? = some r := ⟨_, List.getElem?_eq_getElem hil⟩
        obtain ⟨adR, rfl, hcR⟩ := hAR'.at hr
        have hcR4 : Cells w4 (adR.add (i * 2)) [.int .u64 r.1, .int .i64 r.2] := hcR.ext x4
        have hnx := hC.nxt hr
        have htl := tabE_len hC i hi
        rw [hr] at htl
        dsimp only at htl
        repeat (first | refine Vx ?_ | (apply Ops_q; (case hon => exact Va); (case hd => rfl); (case hq => exact YlA)) | refine Vr ?_ | refine Vt ?_ | refine Vf ?_ | refine Vm ?_ | refine Ve ?_ | refine Vo ?_ | refine Vz ?_ | refine Vn ?_)
        (apply Ops_q; (case hon => (exact Va)); (case hd => rfl); (case hq => exact Yl_indexS (j := i) rfl rfl (by omega)))
        repeat (first | refine Vx ?_ | (apply Ops_q; (case hon => exact Va); (case hd => rfl); (case hq => exact YlA)) | refine Vr ?_ | refine Vt ?_ | refine Vf ?_ | refine Vm ?_ | refine Ve ?_ | refine Vo ?_ | refine Vz ?_ | refine Vn ?_)
        (refine Ops_alloc (by exact Va) rfl ?_; intro w5 b9 n_b9; have k_b9 := n_b9.blk)
        repeat (first | refine Vx ?_ | (apply Ops_q; (case hon => exact Va); (case hd => rfl); (case hq => exact YlA)) | refine Vr ?_ | refine Vt ?_ | refine Vf ?_ | refine Vm ?_ | refine Ve ?_ | refine Vo ?_ | refine Vz ?_ | refine Vn ?_)
        (refine Ops_store (by exact Va) rfl rfl (by assumption) (by first | rfl | exact OneAll.h) ?_; intro w6 u_w6; have k_b9 := u_w6.blk)
        have y6 : Ext w4 w6 := u_w6.below n_b9.ext n_b9.ge
        have x6 := x4.trans y6
        have oT6 := oT.ext y6
        clear u_w6 n_b9
        repeat (first | refine Vx ?_ | (apply Ops_q; (case hon => exact Va); (case hd => rfl); (case hq => exact YlA)) | refine Vr ?_ | refine Vt ?_ | refine Vf ?_ | refine Vm ?_ | refine Ve ?_ | refine Vo ?_ | refine Vz ?_ | refine Vn ?_)
        have e1 : (i : Int) + 1 = ((i + 1 : Nat) : Int) := by omega
        have hnx1 : ((nxtR R i 4294967296 : Nat) : Int) - 1 = ((nxtR R i 4294967296 - 1 : Nat) : Int) := by omega
        refine V_meet1 (fun _ : Unit => [(10, .int .u64 (nxtR R i 4294967296 - 1 : Nat)), (9, .pointer (some ⟨b9, 0, none⟩)), (23, .int .i64 i), (22, .int .i64 R.length), (21, .slice (some adR) R.length cR), (5, .slice (some adR) R.length cR), (7, v)])
          (fun _ w' => w' = w6) ?_ ?_
        · by_cases hlast : i + 1 < R.length
          · have d1 : decide ((i : Int) + 1 < (R.length : Int)) = true := decide_eq_true (by omega)
            obtain ⟨s, hs⟩ : ∃ s, R[i + 1]? = some s := ⟨_, List.getElem?_eq_getElem hlast⟩
            have hns : nxtR R i 4294967296 = s.1 := by unfold nxtR; rw [hs]
            obtain ⟨adR', eA, hcS⟩ := hAR'.at hs
            cases eA
            have hcS6 : w6.cell? ((adR.add ((i + 1) * 2))) = some (.int .u64 s.1) := by
              have := (hcS.ext x6) 0 _ rfl
              rw [add_add, Nat.add_zero] at this; exact this
            rw [hns] at hnx1 hnx ⊢
            refine V_yes rfl d1 ?_
            repeat (first | refine Vx ?_ | (apply Ops_q; (case hon => exact Va); (case hd => rfl); (case hq => exact YlA)) | refine Vr ?_ | refine Vt ?_ | refine Vf ?_ | refine Vm ?_ | refine Ve ?_ | refine Vo ?_ | refine Vz ?_ | refine Vn ?_)
            rw [e1]
            (apply Ops_q; (case hon => (exact Va)); (case hd => rfl); (case hq => exact Yl_indexS (j := i + 1) rfl rfl (by omega)))
            repeat (first | refine Vx ?_ | (apply Ops_q; (case hon => exact Va); (case hd => rfl); (case hq => exact YlA)) | refine Vr ?_ | refine Vt ?_ | refine Vf ?_ | refine Vm ?_ | refine Ve ?_ | refine Vo ?_ | refine Vz ?_ | refine Vn ?_)
            rw [hnx1]
            exact ⟨(), (by repeat (first | exact trivial | refine ⟨rfl, ?_⟩)), rfl⟩
          · have d1 : decide ((i : Int) + 1 < (R.length : Int)) = false := decide_eq_false (by omega)
            have hns : nxtR R i 4294967296 = 4294967296 := by unfold nxtR; rw [List.getElem?_eq_none (by omega)]
            rw [hns]
            refine V_no rfl d1 ?_
            repeat (first | refine Vx ?_ | (apply Ops_q; (case hon => exact Va); (case hd => rfl); (case hq => exact YlA)) | refine Vr ?_ | refine Vt ?_ | refine Vf ?_ | refine Vm ?_ | refine Ve ?_ | refine Vo ?_ | refine Vz ?_ | refine Vn ?_)
            exact ⟨(), (by repeat (first | exact trivial | refine ⟨rfl, ?_⟩)), rfl⟩
        · rintro _ w7 rfl
          repeat (first | refine Vx ?_ | (apply Ops_q; (case hon => exact Va); (case hd => rfl); (case hq => exact YlA)) | refine Vr ?_ | refine Vt ?_ | refine Vf ?_ | refine Vm ?_ | refine Ve ?_ | refine Vo ?_ | refine Vz ?_ | refine Vn ?_)
          by_cases h0 : 0 ≤ r.2
          · have d2 : decide ((0 : Int) ≤ r.2) = true := decide_eq_true h0
            have hst : (tabE R (i + 1)) = tabE R i ++ enP r.2 (pcs r.1 (nxtR R i 4294967296 - 1) 32 0) := by
              rw [tabE]
              unfold runE
              rw [hr]
              dsimp only
              rw [if_pos h0]; rfl
            refine V_yes rfl d2 ?_
            repeat (first | refine Vx ?_ | (apply Ops_q; (case hon => exact Va); (case hd => rfl); (case hq => exact YlA)) | refine Vr ?_ | refine Vt ?_ | refine Vf ?_ | refine Vm ?_ | refine Ve ?_ | refine Vo ?_ | refine Vz ?_ | refine Vn ?_)
            refine Ops_callM (S := fun c => v.ownBlock = some c) (R := fun w0 => PcR w3.heap.size (tabE R i ++ enP r.2 (pcs r.1 (nxtR R i 4294967296 - 1) 32 0)) v w0) (by exact Va) rfl rfl (fun w_ e_ => pieces_v w3.heap.size r.1 (nxtR R i 4294967296 - 1) r.2 32 (Nat.le_refl _) 0 v (tabE R i) w_ rfl (by decide) (oT6.ext e_) (Nat.le_trans x6.size e_.size) (by rw [show (2 : Nat) ^ 32 = 4294967296 from rfl]; omega)) ?_
            intro v8 w8 w0_ e0 m8 hR
            obtain ⟨o8, _⟩ := hR
            have x8 : Ext w3 w8 := Mod.ext_of (x6.trans e0) m8 (fun c hc => oT6.ge hc)
            repeat (first | refine Vx ?_ | (apply Ops_q; (case hon => exact Va); (case hd => rfl); (case hq => exact YlA)) | refine Vr ?_ | refine Vt ?_ | refine Vf ?_ | refine Vm ?_ | refine Ve ?_ | refine Vo ?_ | refine Vz ?_ | refine Vn ?_)
            exact ⟨(i + 1, v8), (by repeat (first | exact trivial | refine ⟨rfl, ?_⟩)), ⟨hil, x8, by dsimp only; rw [hst]; exact o8⟩, by simp only; omega⟩
          · have d2 : decide ((0 : Int) ≤ r.2) = false := decide_eq_false h0
            have hst : (tabE R (i + 1)) = tabE R i := by
              rw [tabE]
              unfold runE
              rw [hr]
              dsimp only
              rw [if_neg h0, List.append_nil]
            refine V_no rfl d2 ?_
            repeat (first | refine Vx ?_ | (apply Ops_q; (case hon => exact Va); (case hd => rfl); (case hq => exact YlA)) | refine Vr ?_ | refine Vt ?_ | refine Vf ?_ | refine Vm ?_ | refine Ve ?_ | refine Vo ?_ | refine Vz ?_ | refine Vn ?_)
            exact ⟨(i + 1, v), (by repeat (first | exact trivial | refine ⟨rfl, ?_⟩)), ⟨hil, x6, by dsimp only; rw [hst]; exact oT6⟩, by simp only; omega⟩
      · obtain rfl : i = R.length := by have := of_decide_eq_false hgd; omega
        repeat (first | refine Vx ?_ | (apply Ops_q; (case hon => exact Va); (case hd => rfl); (case hq => exact YlA)) | refine Vr ?_ | refine Vt ?_ | refine Vf ?_ | refine Vm ?_ | refine Ve ?_ | refine Vo ?_ | refine Vz ?_ | refine Vn ?_)
        refine ret2 (by first | exact .inl rfl | exact .inr rfl) rfl rfl rfl ?_
        exact Gives_mk (fun w' he => .inl ⟨R, g, v, hC, hg, hcf, rfl, (oT.ext he).mono x3.size⟩) (x3.trans x4)
  · have hd : (!decide ((if N.length = 0 then (3 : Int) else 1) = 0)) = true := by split <;> rfl
    refine V_yes rfl hd ?_
    repeat (first | refine Vx ?_ | (apply Ops_q; (case hon => exact Va); (case hd => rfl); (case hq => exact YlA)) | refine Vr ?_ | refine Vt ?_ | refine Vf ?_ | refine Vm ?_ | refine Ve ?_ | refine Vo ?_ | refine Vz ?_ | refine Vn ?_)
    refine ret2 (by first | exact .inl rfl | exact .inr rfl) rfl rfl rfl ?_
    exact Gives_mk (fun _ _ => .inr ⟨hno, rfl⟩) x2
end Go.Proofs.Ytjpnaofoeeegeaa


/-
  Tables (layer 7): look; the reference's bound.
  Conditions: the lists are not too long for a machine.
-/
namespace Go.Proofs.Ytjpnaofoeeegeaa
open Go.RowKit

def lookO (E : Nat → Nat → Option Int) (a : Nat) : Int := match lookE E a with
  | some e => e.v
  | none => -1
end Go.Proofs.Ytjpnaofoeeegeaa


/-
  Tables (layer 7): Differ and Same, of the program and of the reference.
  Conditions: the lists are not too long for a machine.
-/
namespace Go.Proofs.Ytjpnaofoeeegeaa
open Go.RowKit

theorem lookO_eq {L : List En} (a : Nat) (h : Tb L) : lookO (ofS L).1 a = lk L a := by
  rw [lookO, look_best h.allOk, lk_eq a h]
  cases bestL a L <;> rfl
end Go.Proofs.Ytjpnaofoeeegeaa


/-
  Stride tables (layer 8): the runs of a table; Build.
  Conditions: the table's addresses are below 2^32, its length is one that a machine holds.
-/
namespace Go.Proofs.Ytjpnaofoeeegeaa
open Go.RowKit

/-- Up to where the runs are known when k of the bounds were taken. -/
def endN (D : List Int) (k : Nat) : Nat := match D[k]? with
  | some x => x.toNat
  | none => 4294967296
/-- A sorted list of all bounds, and 2^32 perhaps. -/
structure BndD (L : List En) (D : List Int) : Prop where
  asc : D.Pairwise (· < ·)
  mem : ∀ x, x ∈ D ↔ x = 0 ∨ x ∈ words L
  rng : ∀ x ∈ D, 0 ≤ x ∧ x ≤ 4294967296
theorem asc_at {D : List Int} (h : D.Pairwise (· < ·)) {i j : Nat} {x y : Int} (hi : D[i]? = some x) (hj : D[j]? = some y) (hij : i < j) : x < y := by
  obtain ⟨h1, rfl⟩ := List.getElem?_eq_some_iff.1 hi
  obtain ⟨h2, rfl⟩ := List.getElem?_eq_some_iff.1 hj
  exact List.pairwise_iff_getElem.1 h i j h1 h2 hij
section
variable {L : List En} {D : List Int}
theorem BndD.zero (h : BndD L D) : endN D 0 = 0 := by
  have h0 : (0 : Int) ∈ D := (h.mem 0).2 (.inl rfl)
  obtain ⟨i, hi⟩ := List.getElem?_of_mem h0
  have hl := (List.getElem?_eq_some_iff.1 hi).1
  have hx : D[0]? = some (D[0]'(by omega)) := List.getElem?_eq_getElem (by omega)
  unfold endN
  rw [hx]
  dsimp only
  rcases Nat.eq_zero_or_pos i with e | e
  · subst e; rw [hx] at hi; rw [Option.some.inj hi]; rfl
  · have := asc_at h.asc hx hi e
    have := (h.rng _ (List.mem_of_getElem? hx)).1
    omega
theorem BndD.step (h : BndD L D) {k : Nat} {n : Nat} (hk : D[k]? = some (n : Int)) (hn : n ≠ 4294967296) : n < endN D (k + 1) ∧ endN D (k + 1) ≤ 4294967296 ∧ n < 4294967296 := by
  have h1 := h.rng _ (List.mem_of_getElem? hk)
  unfold endN
  cases hy : D[k + 1]? with
  | none => dsimp only; omega
  | some y =>
    have h2 := asc_at h.asc hk hy (Nat.lt_succ_self k)
    have h3 := h.rng _ (List.mem_of_getElem? hy)
    dsimp only; omega
theorem BndD.flat (h : BndD L D) (hv : ∀ e ∈ L, e.p.valid = true) {k n : Nat} (hk : D[k]? = some (n : Int)) {a : Nat} (h1 : n ≤ a) (h2 : a < endN D (k + 1)) : lk L a = lk L n := by
  refine lk_const hv h1 fun b hb hba => ?_
  obtain ⟨i, hi⟩ := List.getElem?_of_mem ((h.mem b).2 (.inr hb))
  rcases Nat.lt_or_ge k i with h3 | h3
  · exfalso
    unfold endN at h2
    rcases Nat.lt_or_ge (k + 1) i with h4 | h4
    · obtain ⟨y, hy⟩ : ∃ y, D[k + 1]? = some y := ⟨_, List.getElem?_eq_getElem (by have := (List.getElem?_eq_some_iff.1 hi).1; omega)⟩
      have h5 := asc_at h.asc hy hi h4
      have h6 := h.rng _ (List.mem_of_getElem? hy)
      rw [hy] at h2
      dsimp only at h2; omega
    · rw [show k + 1 = i by omega, hi] at h2
      have h6 := h.rng _ (List.mem_of_getElem? hi)
      dsimp only at h2; omega
  · rcases Nat.lt_or_ge i k with h4 | h4
    · exact Int.le_of_lt (asc_at h.asc hi hk h4)
    · rw [show i = k by omega, hk] at hi
      exact Int.le_of_eq (Option.some.inj hi).symm
end
/-- What runs returns. -/
def RunR (L : List En) (w0 : World) (r : Value) (w' : World) : Prop := ∃ R : List Rn, Own w' w0.heap.size 94 2 r (R.map rnC) ∧ Canon (lk L) R 4294967296
set_option maxHeartbeats 2000000 in
theorem runs_v (ao : Option Addr) (L : List En) (c : Nat) (w : World) (hL : Ens w ao L) (hLa : ∀ e ∈ L, e.p.a < 4294967296) (hn : L.length ≤ 1000000) (hT : Tb L) :
    Calls Try.prog 37 #[.slice ao L.length c] w (Gives (RunR L w) w) := by
  have hLv : ∀ e ∈ L, e.p.valid = true := fun e he => (hT.ok e he).1
  refine V_enter (vs := [_]) Try.func37 rfl Try.ntmps37 (Nat.le_of_ble_eq_true rfl) ?_
  repeat (first | refine Vx ?_ | (apply Ops_q; (case hon => exact Va); (case hd => rfl); (case hq => exact YlA)) | refine Vr ?_ | refine Vt ?_ | refine Vf ?_ | refine Vm ?_ | refine Ve ?_ | refine Vo ?_ | refine Vz ?_ | refine Vn ?_)
  (refine Ops_callR (by exact Va) rfl rfl (fun w_ e_ => of_entries_v ao L c w_ (hL.ext e_) hLa hn) ?_; intro vt w1 w0_ e0_ e1_ r_vt; have e_w1 := e0_.trans e1_; have b_vt := e0_.size; clear e0_ e1_)
  unfold OfR at r_vt
  rw [if_pos hT.allOk] at r_vt
  obtain ⟨bt, Nt, rfl, ht⟩ := r_vt
  clear b_vt
  repeat (first | refine Vx ?_ | (apply Ops_q; (case hon => exact Va); (case hd => rfl); (case hq => exact YlA)) | refine Vr ?_ | refine Vt ?_ | refine Vf ?_ | refine Vm ?_ | refine Ve ?_ | refine Vo ?_ | refine Vz ?_ | refine Vn ?_)
  (refine Ops_lit (by exact Va) rfl rfl rfl ?_; intro w2 b2 n_b2; have k_b2 := n_b2.blk)
  have x2 : Ext w1 w2 := n_b2.ext
  have o2 : Own w2 w1.heap.size 53 1 (.slice (some ⟨b2, 0, none⟩) 1 1) (([0] : List Int).map uc) := own_lit1 n_b2
  clear k_b2 n_b2
  repeat (first | refine Vx ?_ | (apply Ops_q; (case hon => exact Va); (case hd => rfl); (case hq => exact YlA)) | refine Vr ?_ | refine Vt ?_ | refine Vf ?_ | refine Vm ?_ | refine Ve ?_ | refine Vo ?_ | refine Vz ?_ | refine Vn ?_)
  refine V_loop (fun s : Nat × Value => [(22, .int .i64 s.1), (21, .int .i64 L.length), (20, .slice ao L.length c), (5, s.2), (3, .pointer (some ⟨bt, 0, none⟩))])
    (fun s w' => s.1 ≤ L.length ∧ Ext w1 w' ∧ Own w' w1.heap.size 53 1 s.2 ((0 :: words (L.take s.1)).map uc)) (fun s => L.length - s.1) (0, .slice (some ⟨b2, 0, none⟩) 1 1) (by repeat (first | exact trivial | refine ⟨rfl, ?_⟩))
    ⟨Nat.zero_le _, x2, o2⟩ ?_
  clear o2
  rintro ⟨j, u⟩ w3 ⟨hj, x3, o3⟩
  dsimp only at hj o3 ⊢
  repeat (first | refine Vx ?_ | (apply Ops_q; (case hon => exact Va); (case hd => rfl); (case hq => exact YlA)) | refine Vr ?_ | refine Vt ?_ | refine Vf ?_ | refine Vm ?_ | refine Ve ?_ | refine Vo ?_ | refine Vz ?_ | refine Vn ?_)
  refine V_cond rfl (fun hg => ?_) (fun hg => ?_)
  · replace hg := of_decide_eq_true hg
    have hjl : j < L.length := by omega
    obtain ⟨x, hx⟩ : ∃ x, L[j]? = some x := ⟨_, List.getElem?_eq_getElem hjl⟩
    obtain ⟨ad2, rfl, hcx⟩ := hL.at hx
    have hxa := hLa x (List.mem_of_getElem? hx)
    have hxl := last_lt' x.p hxa
    have hc1 : Cells w3 (ad2.add (j * 3)) [.int .u32 x.p.a, .int .i64 x.p.n, .int .i64 x.v] := hcx.ext (e_w1.trans x3)
    repeat (first | refine Vx ?_ | (apply Ops_q; (case hon => exact Va); (case hd => rfl); (case hq => exact YlA)) | refine Vr ?_ | refine Vt ?_ | refine Vf ?_ | refine Vm ?_ | refine Ve ?_ | refine Vo ?_ | refine Vz ?_ | refine Vn ?_)
    (apply Ops_q; (case hon => (exact Va)); (case hd => rfl); (case hq => exact Yl_indexS (j := j) rfl rfl (by omega)))
    repeat (first | refine Vx ?_ | (apply Ops_q; (case hon => exact Va); (case hd => rfl); (case hq => exact YlA)) | refine Vr ?_ | refine Vt ?_ | refine Vf ?_ | refine Vm ?_ | refine Ve ?_ | refine Vo ?_ | refine Vz ?_ | refine Vn ?_)
    (refine Ops_alloc (by exact Va) rfl ?_; intro w4 b4 n_b4; have k_b4 := n_b4.blk)
    repeat (first | refine Vx ?_ | (apply Ops_q; (case hon => exact Va); (case hd => rfl); (case hq => exact YlA)) | refine Vr ?_ | refine Vt ?_ | refine Vf ?_ | refine Vm ?_ | refine Ve ?_ | refine Vo ?_ | refine Vz ?_ | refine Vn ?_)
    (refine Ops_store (by exact Va) rfl rfl (by assumption) (by first | rfl | exact OneAll.h) ?_; intro w5 u_w5; have k_b4 := u_w5.blk)
    have x5 := u_w5.below (x3.trans n_b4.ext) (Nat.le_trans x3.size n_b4.ge)
    have hb4 : u.ownBlock ≠ some b4 := fun e => by have := o3.lt e; have := n_b4.ge; omega
    have o5 := (o3.ext n_b4.ext).upd u_w5 hb4
    have hpart : Cells w5 ⟨b4, 0, none⟩ [.int .u32 x.p.a, .int .i64 x.p.n] := k_b4.part 0 2
    clear u_w5 n_b4
    repeat (first | refine Vx ?_ | (apply Ops_q; (case hon => exact Va); (case hd => rfl); (case hq => exact YlA)) | refine Vt ?_ | refine Vf ?_ | refine Vm ?_ | refine Ve ?_ | refine Vo ?_ | refine Vz ?_ | refine Vn ?_)
    refine V_lit 11 10 [.int .u64 (x.p.a : Int), .int .u64 ((x.p.last : Int) + 1)] (by kernel_rfl) rfl (by kernel_rfl) rfl rfl ?_
    repeat (first | refine Vx ?_ | (apply Ops_q; (case hon => exact Va); (case hd => rfl); (case hq => exact YlA)) | refine Vr ?_ | refine Vt ?_ | refine Vf ?_ | refine Vm ?_ | refine Ve ?_ | refine Vo ?_ | refine Vz ?_ | refine Vn ?_)
    (apply Ops_q; (case hon => (exact Va)); (case hd => rfl); (case hq => exact Yl_call rfl (fun w_ e_ => last_v x.p w_ hxa)))
    repeat (first | refine Vx ?_ | (apply Ops_q; (case hon => exact Va); (case hd => rfl); (case hq => exact YlA)) | refine Vr ?_ | refine Vt ?_ | refine Vf ?_ | refine Vm ?_ | refine Ve ?_ | refine Vo ?_ | refine Vz ?_ | refine Vn ?_)
    refine ⟨_, rfl, inferInstance, rfl, ?_⟩
    repeat (first | refine Vx ?_ | (apply Ops_q; (case hon => exact Va); (case hd => rfl); (case hq => exact YlA)) | refine Vr ?_ | refine Vt ?_ | refine Vf ?_ | refine Vm ?_ | refine Ve ?_ | refine Vo ?_ | refine Vz ?_ | refine Vn ?_)
    intro w6 b6 n_b6
    have o6 := o5.ext n_b6.ext
    have x6 := x5.trans n_b6.ext
    have hlen : ((0 :: words (L.take j)).map uc).length ≤ 8000000 := by
      have h1 := words_len (L.take j)
      rw [List.length_take] at h1
      simp only [List.length_map, List.length_cons]; omega
    refine Ops_appendL (M := [uc (x.p.a : Int), uc ((x.p.last : Int) + 1)]) (by exact Va) rfl rfl rfl rfl o6 n_b6.blk.cells rfl (fun z hz => by simp at hz; rcases hz with rfl | rfl <;> rfl) (fun z hz => by simp at hz; rcases hz with rfl | rfl <;> rfl) (by omega) (by omega) x6.size ?_
    intro v' w7 o7 g7 d7
    have x7 : Ext w1 w7 := Mod.ext_of x6 ((Mod.of_ext (S := fun c => u.ownBlock = some c) (Ext.refl w6)).grow g7 (fun b hb => .inl hb)) (fun c hc => o6.ge hc)
    repeat (first | refine Vx ?_ | (apply Ops_q; (case hon => exact Va); (case hd => rfl); (case hq => exact YlA)) | refine Vr ?_ | refine Vt ?_ | refine Vf ?_ | refine Vm ?_ | refine Ve ?_ | refine Vo ?_ | refine Vz ?_ | refine Vn ?_)
    refine ⟨(j + 1, v'), (by repeat (first | exact trivial | refine ⟨rfl, ?_⟩)), ⟨hjl, x7, ?_⟩, by simp only; omega⟩
    dsimp only
    rw [words_snoc hx]
    have := o7
    simp only [List.map_cons, List.map_append, List.cons_append, List.map_nil] at this ⊢
    exact this
  · replace hg := of_decide_eq_false hg
    obtain rfl : j = L.length := by omega
    rw [List.take_length] at o3
    have hWl : (0 :: words L).length ≤ 8000000 := by
      have := words_len L
      rw [List.length_cons]; omega
    obtain ⟨g, cap, rfl, hgb, hglt, _⟩ := o3.addr (by simp)
    have D1 : DatU w3 w1.heap.size g ((0 :: words L).map uc).length cap (0 :: words L) := ⟨o3, (List.length_map ..).symm⟩
    have hnb : ((0 :: words L).map uc).length ≤ 1000000000000 := by rw [List.length_map]; omega
    generalize hnn : ((0 :: words L).map uc).length = n at *
    repeat (first | refine Vx ?_ | (apply Ops_q; (case hon => exact Va); (case hd => rfl); (case hq => exact YlA)) | refine Vr ?_ | refine Vt ?_ | refine Vf ?_ | refine Vm ?_ | refine Ve ?_ | refine Vo ?_ | refine Vz ?_ | refine Vn ?_)
    refine Ops_callM (S := BlkU g) (R := fun _ => DatV w1.heap.size g n cap (fun r L' => r = .tuple #[] ∧ Moved (0 :: words L) L' 0 n ∧ Asc ltU L' 0 n)) (by exact Va) rfl rfl (fun w_ e_ => sortU_v hnb (0 :: words L) w_ (D1.ext e_)) ?_
    intro r w4 w0_ e0 m4 hR
    obtain ⟨M, D2, rfl, hM, hA⟩ := hR
    have x4 : Ext w1 w4 := Mod.ext_of (x3.trans e0) m4 (fun c hc => by rw [hc]; exact hgb)
    clear D1 o3 e0 m4
    repeat (first | refine Vx ?_ | (apply Ops_q; (case hon => exact Va); (case hd => rfl); (case hq => exact YlA)) | refine Vr ?_ | refine Vt ?_ | refine Vf ?_ | refine Vm ?_ | refine Ve ?_ | refine Vo ?_ | refine Vz ?_ | refine Vn ?_)
    refine Ops_callM (S := BlkU g) (R := fun _ => CmpR g n cap M) (by exact Va) rfl rfl (fun w_ e_ => compactU_v hnb M w_ (D2.ext e_) hA) ?_
    intro r w5 w0_ e0 m5 hR
    obtain ⟨D, rfl, hDn, hRd, hS⟩ := hR
    have x5 : Ext w1 w5 := Mod.ext_of (x4.trans e0) m5 (fun c hc => by rw [hc]; exact hgb)
    have hBD : BndD L D := ⟨hS.lt, fun x => by
      rw [hS.mem, List.take_of_length_le (by rw [D2.len]; exact Nat.le_refl _), hM.perm.mem_iff, List.mem_cons], fun x hx => by
      rw [hS.mem, List.take_of_length_le (by rw [D2.len]; exact Nat.le_refl _), hM.perm.mem_iff, List.mem_cons] at hx
      rcases hx with rfl | hx
      · omega
      · exact words_range hLa hx⟩
    have hDl : D.length ≤ 8000000 := by rw [List.length_map] at hnn; omega
    clear D2 e0 m5 hM hA hS x4
    repeat (first | refine Vx ?_ | (apply Ops_q; (case hon => exact Va); (case hd => rfl); (case hq => exact YlA)) | refine Vr ?_ | refine Vt ?_ | refine Vf ?_ | refine Vm ?_ | refine Ve ?_ | refine Vo ?_ | refine Vz ?_ | refine Vn ?_)
    refine V_loop (fun s : Nat × Value × List Rn => [(44, .int .i64 s.1), (43, .int .i64 D.length), (42, .slice (some ⟨g, 0, none⟩) D.length cap), (8, s.2.1), (3, .pointer (some ⟨bt, 0, none⟩))])
      (fun s w' => s.1 ≤ D.length ∧ Ext w5 w' ∧ Own w' w5.heap.size 94 2 s.2.1 (s.2.2.map rnC) ∧ Canon (lk L) s.2.2 (endN D s.1)) (fun s => D.length - s.1) (0, .slice none 0 0, []) (by repeat (first | exact trivial | refine ⟨rfl, ?_⟩))
      ⟨Nat.zero_le _, Ext.refl _, Own.nil, by dsimp only; rw [hBD.zero]; exact Canon.zero _⟩ ?_
    rintro ⟨k, v, R⟩ w6 ⟨hk, x6, o6, hC⟩
    dsimp only at hk o6 hC ⊢
    have hfin : endN D k = 4294967296 → ∀ w', Ext w6 w' → RunR L w v w' := fun e w' he => ⟨R, (o6.ext he).mono (Nat.le_trans e_w1.size x5.size), by rw [← e]; exact hC⟩
    repeat (first | refine Vx ?_ | (apply Ops_q; (case hon => exact Va); (case hd => rfl); (case hq => exact YlA)) | refine Vr ?_ | refine Vt ?_ | refine Vf ?_ | refine Vm ?_ | refine Ve ?_ | refine Vo ?_ | refine Vz ?_ | refine Vn ?_)
    refine V_cond rfl (fun hg2 => ?_) (fun hg2 => ?_)
    · replace hg2 := of_decide_eq_true hg2
      have hkl : k < D.length := by omega
      obtain ⟨ni, hni⟩ : ∃ ni, D[k]? = some ni := ⟨_, List.getElem?_eq_getElem hkl⟩
      have hrg := hBD.rng ni (List.mem_of_getElem? hni)
      obtain ⟨n0, rfl⟩ : ∃ n0 : Nat, ni = n0 := ⟨ni.toNat, by omega⟩
      have hn32 : n0 ≤ 4294967296 := by omega
      have hcn := (hRd.ext x6) k _ hni
      clear hrg
      repeat (first | refine Vx ?_ | (apply Ops_q; (case hon => exact Va); (case hd => rfl); (case hq => exact YlA)) | refine Vr ?_ | refine Vt ?_ | refine Vf ?_ | refine Vm ?_ | refine Ve ?_ | refine Vo ?_ | refine Vz ?_ | refine Vn ?_)
      (apply Ops_q; (case hon => (exact Va)); (case hd => rfl); (case hq => exact Yl_indexS (j := k) rfl rfl (by omega)))
      repeat (first | refine Vx ?_ | (apply Ops_q; (case hon => exact Va); (case hd => rfl); (case hq => exact YlA)) | refine Vr ?_ | refine Vt ?_ | refine Vf ?_ | refine Vm ?_ | refine Ve ?_ | refine Vo ?_ | refine Vz ?_ | refine Vn ?_)
      refine V_cond rfl (fun hbr => ?_) (fun hbr => ?_)
      · have e : endN D k = 4294967296 := by have := of_decide_eq_true hbr; unfold endN; rw [hni]; dsimp only; omega
        clear hbr
        repeat (first | refine Vx ?_ | (apply Ops_q; (case hon => exact Va); (case hd => rfl); (case hq => exact YlA)) | refine Vr ?_ | refine Vt ?_ | refine Vf ?_ | refine Vm ?_ | refine Ve ?_ | refine Vo ?_ | refine Vz ?_ | refine Vn ?_)
        refine ret1 (by first | exact .inl rfl | exact .inr rfl) rfl rfl ?_
        exact Gives_mk (hfin e) (e_w1.trans (x5.trans x6))
      · have hne : n0 ≠ 4294967296 := by have := of_decide_eq_false hbr; omega
        clear hbr
        have hst := hBD.step hni hne
        have hlkE : lookO (ofS L).1 n0 = lk L n0 := lookO_eq n0 hT
        have hlow : n0 < 4294967296 := hst.2.2
        have ht6 := ht.ext (x5.trans x6)
        have hRl := hC.len
        have hCk : endN D k = n0 := by unfold endN; rw [hni]; rfl
        rw [hCk] at hC hRl
        have hRl2 : R.length ≤ 4294967296 := by omega
        have hext := hC.ext (g' := lk L) (v := lk L n0) hst.1 (fun _ _ => rfl) (fun a h1 h2 => hBD.flat hLv hni h1 h2)
        repeat (first | refine Vx ?_ | (apply Ops_q; (case hon => exact Va); (case hd => rfl); (case hq => exact YlA)) | refine Vr ?_ | refine Vt ?_ | refine Vf ?_ | refine Vm ?_ | refine Ve ?_ | refine Vo ?_ | refine Vz ?_ | refine Vn ?_)
        (apply Ops_q; (case hon => (exact Va)); (case hd => rfl); (case hq => exact Yl_call rfl (fun w_ e_ => lookup_v n0 w_ (ht6.ext e_) hlow)))
        repeat (first | refine Vx ?_ | (apply Ops_q; (case hon => exact Va); (case hd => rfl); (case hq => exact YlA)) | refine Vr ?_ | refine Vt ?_ | refine Vf ?_ | refine Vm ?_ | refine Ve ?_ | refine Vo ?_ | refine Vz ?_ | refine Vn ?_)
        (refine Ops_alloc (by exact Va) rfl ?_; intro w7 b7 n_b7; have k_b7 := n_b7.blk)
        repeat (first | refine Vx ?_ | (apply Ops_q; (case hon => exact Va); (case hd => rfl); (case hq => exact YlA)) | refine Vr ?_ | refine Vt ?_ | refine Vf ?_ | refine Vm ?_ | refine Ve ?_ | refine Vo ?_ | refine Vz ?_ | refine Vn ?_)
        (refine Ops_store (by exact Va) rfl rfl (by assumption) (by first | rfl | exact OneAll.h) ?_; intro w8 u_w8; have k_b7 := u_w8.blk)
        have x8 : Ext w6 w8 := u_w8.below n_b7.ext n_b7.ge
        have o8 : Own w8 w5.heap.size 94 2 v (R.map rnC) := o6.ext x8
        clear u_w8 n_b7
        repeat (first | refine Vx ?_ | (apply Ops_q; (case hon => exact Va); (case hd => rfl); (case hq => exact YlA)) | refine Vr ?_ | refine Vt ?_ | refine Vf ?_ | refine Vm ?_ | refine Ve ?_ | refine Vo ?_ | refine Vz ?_ | refine Vn ?_)
        refine V_meet1 (fun _ : Unit => [(11, .int .i64 (lk L n0)), (10, .int .u64 n0), (44, .int .i64 k), (43, .int .i64 D.length), (42, .slice (some ⟨g, 0, none⟩) D.length cap), (8, v), (3, .pointer (some ⟨bt, 0, none⟩))])
          (fun _ w' => w' = w8) ?_ ?_
        · unfold lookO at hlkE
          cases ho : lookE (ofS L).1 n0 with
          | none =>
            rw [ho] at hlkE
            repeat (first | refine Vx ?_ | (apply Ops_q; (case hon => exact Va); (case hd => rfl); (case hq => exact YlA)) | refine Vr ?_ | refine Vt ?_ | refine Vf ?_ | refine Vm ?_ | refine Ve ?_ | refine Vo ?_ | refine Vz ?_ | refine Vn ?_)
            rw [← hlkE]
            exact ⟨(), (by repeat (first | exact trivial | refine ⟨rfl, ?_⟩)), rfl⟩
          | some e =>
            rw [ho] at hlkE k_b7
            repeat (first | refine Vx ?_ | (apply Ops_q; (case hon => exact Va); (case hd => rfl); (case hq => exact YlA)) | refine Vr ?_ | refine Vt ?_ | refine Vf ?_ | refine Vm ?_ | refine Ve ?_ | refine Vo ?_ | refine Vz ?_ | refine Vn ?_)
            rw [← hlkE]
            exact ⟨(), (by repeat (first | exact trivial | refine ⟨rfl, ?_⟩)), rfl⟩
        · rintro _ w9 rfl
          repeat (first | refine Vx ?_ | (apply Ops_q; (case hon => exact Va); (case hd => rfl); (case hq => exact YlA)) | refine Vr ?_ | refine Vt ?_ | refine Vf ?_ | refine Vm ?_ | refine Ve ?_ | refine Vo ?_ | refine Vz ?_ | refine Vn ?_)
          refine Ops_callM (S := fun c => v.ownBlock = some c) (R := fun w0 => ExtR w5.heap.size (extR R n0 (lk L n0)) v w0) (by exact Va) rfl rfl (fun w_ e_ => extend_v R n0 (lk L n0) w_ (o8.ext e_) (Nat.le_trans (x6.trans x8).size e_.size) hRl2) ?_
          intro v2 w10 w0_ e0 m10 hR2
          obtain ⟨o10, _⟩ := hR2
          have x10 : Ext w5 w10 := Mod.ext_of ((x6.trans x8).trans e0) m10 (fun c hc => o6.ge hc)
          repeat (first | refine Vx ?_ | (apply Ops_q; (case hon => exact Va); (case hd => rfl); (case hq => exact YlA)) | refine Vr ?_ | refine Vt ?_ | refine Vf ?_ | refine Vm ?_ | refine Ve ?_ | refine Vo ?_ | refine Vz ?_ | refine Vn ?_)
          exact ⟨(k + 1, v2, extR R n0 (lk L n0)), (by repeat (first | exact trivial | refine ⟨rfl, ?_⟩)), ⟨hkl, x10, o10, hext⟩, by simp only; omega⟩
    · replace hg2 := of_decide_eq_false hg2
      have e : endN D k = 4294967296 := by unfold endN; rw [List.getElem?_eq_none (by omega)]
      repeat (first | refine Vx ?_ | (apply Ops_q; (case hon => exact Va); (case hd => rfl); (case hq => exact YlA)) | refine Vr ?_ | refine Vt ?_ | refine Vf ?_ | refine Vm ?_ | refine Ve ?_ | refine Vo ?_ | refine Vz ?_ | refine Vn ?_)
      refine ret1 (by first | exact .inl rfl | exact .inr rfl) rfl rfl ?_
      exact Gives_mk (hfin e) (e_w1.trans (x5.trans x6))
end Go.Proofs.Ytjpnaofoeeegeaa


/-
  Stride tables (layer 8): Build; the reference's block, uniform and Build.
  Conditions: the table's addresses are below 2^32, its length is one that a machine holds.
-/
namespace Go.Proofs.Ytjpnaofoeeegeaa
open Go.RowKit

theorem IsCf.w {g : Nat → Int} {N : List Nd} {L : List Int} (h : IsCf g N L) : NdW N := fun x hx => by
  obtain ⟨c, h2, _⟩ := isCf_len h
  obtain ⟨i, hi⟩ := List.getElem?_of_mem hx
  have hl := (List.getElem?_eq_some_iff.1 hi).1
  obtain ⟨p, hp⟩ := c.place hl
  have := c.node hp hl
  rw [← h2, hi] at this
  cases this
  exact ⟨mkW_lt _ 64, mkW_lt _ 64⟩
/-- What Build's result is. -/
def BldOk (T : List En) (N : List Nd) (L : List Int) : Prop := (chk T = 0 ∧ IsCf (lk T) N L) ∨ (chk T ≠ 0 ∧ N = [] ∧ L = [])
theorem BldOk.unique {T : List En} {N N' : List Nd} {L L' : List Int} (h : BldOk T N L) (h' : BldOk T N' L') : N = N' ∧ L = L' := by
  rcases h with ⟨h1, h2⟩ | ⟨h1, h2, h3⟩ <;> rcases h' with ⟨h4, h5⟩ | ⟨h4, h5, h6⟩
  · exact isCf_unique h2 h5
  · exact absurd h1 h4
  · exact absurd h4 h1
  · exact ⟨by rw [h2, h5], by rw [h3, h6]⟩
def BldR (T : List En) (r : Value) (w' : World) : Prop :=
  ∃ (aN aL : Option Addr) (N : List Nd) (L : List Int) (cN cL : Nat), r = .tuple #[.agg #[.slice aN N.length cN, .slice aL L.length cL], .int .i64 (chk T)] ∧ BldOk T N L ∧ Nds w' aN N ∧ Ins w' aL L
theorem build_v (ao : Option Addr) (T : List En) (c : Nat) (w : World) (hT : Ens w ao T) (ha : ∀ e ∈ T, e.p.a < 4294967296) (hn : T.length ≤ 1000000) :
    Calls Try.prog 12 #[.slice ao T.length c] w (Gives (BldR T) w) := by
  refine V_enter (vs := [_]) Try.func12 rfl Try.ntmps12 (Nat.le_of_ble_eq_true rfl) ?_
  repeat (first | refine Vx ?_ | (apply Ops_q; (case hon => exact Va); (case hd => rfl); (case hq => exact YlA)) | refine Vr ?_ | refine Vt ?_ | refine Vf ?_ | refine Vm ?_ | refine Ve ?_ | refine Vo ?_ | refine Vz ?_ | refine Vn ?_)
  (refine Ops_alloc (by exact Va) rfl ?_; intro w1 b2 n_b2; have k_b2 := n_b2.blk)
  have x1 := n_b2.ext
  have g2 := n_b2.ge
  clear n_b2
  repeat (first | refine Vx ?_ | (apply Ops_q; (case hon => exact Va); (case hd => rfl); (case hq => exact YlA)) | refine Vr ?_ | refine Vt ?_ | refine Vf ?_ | refine Vm ?_ | refine Ve ?_ | refine Vo ?_ | refine Vz ?_ | refine Vn ?_)
  (apply Ops_q; (case hon => (exact Va)); (case hd => rfl); (case hq => exact Yl_call rfl (fun w_ e_ => check_v ao T c w_ (hT.ext (x1.trans e_)) ha hn)))
  repeat (first | refine Vx ?_ | (apply Ops_q; (case hon => exact Va); (case hd => rfl); (case hq => exact YlA)) | refine Vr ?_ | refine Vt ?_ | refine Vf ?_ | refine Vm ?_ | refine Ve ?_ | refine Vo ?_ | refine Vz ?_ | refine Vn ?_)
  by_cases h0 : chk T = 0
  · have d0 : (!decide (chk T = 0)) = false := by rw [decide_eq_true h0]; rfl
    refine V_no rfl d0 ?_
    have hTb := (chk_iff.1 h0).2
    repeat (first | refine Vx ?_ | (apply Ops_q; (case hon => exact Va); (case hd => rfl); (case hq => exact YlA)) | refine Vr ?_ | refine Vt ?_ | refine Vf ?_ | refine Vm ?_ | refine Ve ?_ | refine Vo ?_ | refine Vz ?_ | refine Vn ?_)
    (refine Ops_callR (by exact Va) rfl rfl (fun w_ e_ => runs_v ao T c w_ (hT.ext (x1.trans e_)) ha hn hTb) ?_; intro vr w2 w0_ e0_ e1_ r_vr; have e_w2 := e0_.trans e1_; have b_vr := e0_.size; clear e0_ e1_)
    obtain ⟨R, oR, hC⟩ := r_vr
    obtain ⟨aR, cR, rfl, hAR⟩ := ownS oR
    have hAR' : Rns w2 aR R := hAR
    have x2 := x1.trans e_w2
    replace k_b2 := k_b2.ext e_w2
    repeat (first | refine Vx ?_ | (apply Ops_q; (case hon => exact Va); (case hd => rfl); (case hq => exact YlA)) | refine Vr ?_ | refine Vt ?_ | refine Vf ?_ | refine Vm ?_ | refine Ve ?_ | refine Vo ?_ | refine Vz ?_ | refine Vn ?_)
    (refine Ops_callR (by exact Va) rfl rfl (fun w_ e_ => compress_v (lk T) aR R cR w_ (hAR'.ext e_) hC) ?_; intro vc w3 w0_ e0_ e1_ r_vc; have e_w3 := e0_.trans e1_; have b_vc := e0_.size; clear e0_ e1_)
    obtain ⟨vN, vL, N, L, rfl, hcf, oN, oL⟩ := r_vc
    obtain ⟨aN, cN, rfl, hAN⟩ := ownS oN
    obtain ⟨aL, cL, rfl, hAL⟩ := ownS oL
    have x3 := x2.trans e_w3
    replace k_b2 := k_b2.ext e_w3
    have hN2 := own_blk_ne oN k_b2 rfl
    have hL2 := own_blk_ne oL k_b2 rfl
    repeat (first | refine Vx ?_ | (apply Ops_q; (case hon => exact Va); (case hd => rfl); (case hq => exact YlA)) | refine Vr ?_ | refine Vt ?_ | refine Vf ?_ | refine Vm ?_ | refine Ve ?_ | refine Vo ?_ | refine Vz ?_ | refine Vn ?_)
    (refine Ops_store (by exact Va) rfl rfl (by assumption) (by first | rfl | exact OneAll.h) ?_; intro w4 u_w4; have k_b2 := u_w4.blk)
    have x4 := u_w4.below x3 g2
    have oN4 := oN.upd u_w4 hN2
    have oL4 := oL.upd u_w4 hL2
    repeat (first | refine Vx ?_ | (apply Ops_q; (case hon => exact Va); (case hd => rfl); (case hq => exact YlA)) | refine Vr ?_ | refine Vt ?_ | refine Vf ?_ | refine Vm ?_ | refine Ve ?_ | refine Vo ?_ | refine Vz ?_ | refine Vn ?_)
    refine retR2 (.inl rfl) rfl (res_agg rfl k_b2.cells) rfl ?_
    refine Gives_mk (fun w' he => ?_) x4
    have hAN5 : Nds w4 aN N := by obtain ⟨a', c', e1, h1⟩ := ownS oN4; cases e1; exact h1
    have hAL5 : Ins w4 aL L := by obtain ⟨a', c', e1, h1⟩ := ownS oL4; cases e1; exact h1
    exact ⟨aN, aL, N, L, cN, cL, by rw [h0], .inl ⟨h0, hcf⟩, hAN5.ext he, hAL5.ext he⟩
  · have d0 : (!decide (chk T = 0)) = true := by rw [decide_eq_false h0]; rfl
    refine V_yes rfl d0 ?_
    repeat (first | refine Vx ?_ | (apply Ops_q; (case hon => exact Va); (case hd => rfl); (case hq => exact YlA)) | refine Vr ?_ | refine Vt ?_ | refine Vf ?_ | refine Vm ?_ | refine Ve ?_ | refine Vo ?_ | refine Vz ?_ | refine Vn ?_)
    (refine Ops_store (by exact Va) rfl rfl (by assumption) (by first | rfl | exact OneAll.h) ?_; intro w2 u_w2; have k_b2 := u_w2.blk)
    have x2 := u_w2.below x1 g2
    repeat (first | refine Vx ?_ | (apply Ops_q; (case hon => exact Va); (case hd => rfl); (case hq => exact YlA)) | refine Vr ?_ | refine Vt ?_ | refine Vf ?_ | refine Vm ?_ | refine Ve ?_ | refine Vo ?_ | refine Vz ?_ | refine Vn ?_)
    refine retR2 (.inl rfl) rfl (res_agg rfl k_b2.cells) rfl ?_
    exact Gives_mk (fun w' he => ⟨none, none, [], [], 0, 0, rfl, .inr ⟨h0, rfl, rfl⟩, Arr.nil, Arr.nil⟩) x2
/-! ### The reference -/
theorem Yl_quoN {P : Program} {N : Fr} {m : Env} {w : World} {dst : Option Tmp} {ty : TypeId} {pos : String} {after : Array Edge} {g : Option (Nat × Bool)} {t t' : TypeId} {x y : Operand} {k : IntKind} {a b : Nat} (hx : ev m x = some (.int k (a : Int))) (hy : ev m y = some (.int k (b : Int))) (hb : 0 < b) (hk : InK k ((a / b : Nat) : Int)) :
    Yl P N m w ⟨dst, .binOp .quo t x y t', ty, pos, after, g⟩ (.int k ((a / b : Nat) : Int)) := by
  have := Yl_quo (P := P) (N := N) (w := w) (dst := dst) (ty := ty) (pos := pos) (after := after) (g := g) (t := t) (t' := t') hx hy (by omega)
  rwa [Int.tdiv_eq_ediv_of_nonneg (Int.natCast_nonneg a), ← Int.natCast_ediv, wrap_in hk] at this
theorem blockR_v (base d x : Nat) (w : World) (hd : d ≤ 5) (hx : x < 64) (h32 : base + nsz d ≤ 4294967296) :
    Calls Try.prog 48 #[.int .u64 base, .int .i64 d, .int .i64 x] w (Ret (.tuple #[.int .u64 (digLo d base x), .int .u64 (digHi d base x)]) w) := by
  have hdig := dig_in (base := base) hd hx
  refine V_enter (vs := [_, _, _]) Try.func48 rfl Try.ntmps48 (Nat.le_of_ble_eq_true rfl) ?_
  repeat (first | refine Vx ?_ | (apply Ops_q; (case hon => exact Va); (case hd => rfl); (case hq => exact YlA)) | refine Vr ?_ | refine Vt ?_ | refine Vf ?_ | refine Vm ?_ | refine Ve ?_ | refine Vo ?_ | refine Vz ?_ | refine Vn ?_)
  refine V_cond rfl (fun h5 => ?_) (fun h5 => ?_)
  · have h5' : d = 5 := by have := of_decide_eq_true h5; omega
    clear h5
    subst h5'
    have e2 : (base : Int) + ((x / 16 : Nat) : Int) = ((digLo 5 base x : Nat) : Int) := by unfold digLo; rw [if_neg (by omega), Int.natCast_add]
    have hin : InK .u64 ((base : Int) + ((x / 16 : Nat) : Int)) := by rw [e2]; simp only [InK]; omega
    have hq : InK .u64 ((x / 16 : Nat) : Int) := by simp only [InK]; omega
    rw [nsz_five] at h32
    rw [nsz_five, show nsz (5 + 1) = 1 from rfl] at hdig
    repeat (first | refine Vx ?_ | (apply Ops_q; (case hon => exact Va); (case hd => rfl); (case hq => exact YlA)) | refine Vr ?_ | refine Vt ?_ | refine Vf ?_ | refine Vm ?_ | refine Ve ?_ | refine Vo ?_ | refine Vz ?_ | refine Vn ?_)
    (apply Ops_q; (case hon => (exact Va)); (case hd => rfl); (case hq => exact Yl_quoN (a := x) (b := 16) rfl rfl (by omega) hq))
    repeat (first | refine Vx ?_ | (apply Ops_q; (case hon => exact Va); (case hd => rfl); (case hq => exact YlA)) | refine Vr ?_ | refine Vt ?_ | refine Vf ?_ | refine Vm ?_ | refine Ve ?_ | refine Vo ?_ | refine Vz ?_ | refine Vn ?_)
    rw [e2]
    by_cases hm : x % 16 = 0
    · have hd1 : decide ((x : Int) % 16 = 0) = true := decide_eq_true (by omega)
      have eh : ((digLo 5 base x : Nat) : Int) + 1 = ((digHi 5 base x : Nat) : Int) := by
        unfold digHi
        rw [if_pos (show digOk 5 x = true by unfold digOk; rw [decide_eq_true hm, Bool.or_true]), nsz_six, Int.natCast_add]; rfl
      refine V_yes rfl hd1 ?_
      repeat (first | refine Vx ?_ | (apply Ops_q; (case hon => exact Va); (case hd => rfl); (case hq => exact YlA)) | refine Vr ?_ | refine Vt ?_ | refine Vf ?_ | refine Vm ?_ | refine Ve ?_ | refine Vo ?_ | refine Vz ?_ | refine Vn ?_)
      rw [eh]
      refine ret2 (by first | exact .inl rfl | exact .inr rfl) rfl rfl rfl ?_
      exact Ret_mk rfl (Ext.refl _)
    · have hd1 : decide ((x : Int) % 16 = 0) = false := decide_eq_false (by omega)
      have eh : digHi 5 base x = digLo 5 base x := by
        unfold digHi
        rw [if_neg (show ¬digOk 5 x = true by unfold digOk; rw [decide_eq_false hm, decide_eq_false (by omega)]; decide)]
      refine V_no rfl hd1 ?_
      repeat (first | refine Vx ?_ | (apply Ops_q; (case hon => exact Va); (case hd => rfl); (case hq => exact YlA)) | refine Vr ?_ | refine Vt ?_ | refine Vf ?_ | refine Vm ?_ | refine Ve ?_ | refine Vo ?_ | refine Vz ?_ | refine Vn ?_)
      refine ret2 (by first | exact .inl rfl | exact .inr rfl) rfl rfl rfl ?_
      exact Ret_mk (by rw [eh]) (Ext.refl _)
  · have h5' : d < 5 := by have := of_decide_eq_false h5; omega
    clear h5
    have e1 : (26 : Int) - 6 * (d : Int) = ((26 - 6 * d : Nat) : Int) := by omega
    have es : (1 : Int) * 2 ^ ((26 : Int) - 6 * (d : Int)).toNat = ((nsz (d + 1) : Nat) : Int) := by
      rw [e1, Int.toNat_natCast, Int.one_mul]
      unfold nsz
      rw [show 32 - 6 * (d + 1) = 26 - 6 * d by omega]; simp
    have hk : InK .u64 ((1 : Int) * 2 ^ ((26 : Int) - 6 * (d : Int)).toNat) := by rw [es]; simp only [InK]; omega
    have h64 : (x + 1) * nsz (d + 1) ≤ nsz d := by rw [nsz_step h5']; exact Nat.mul_le_mul_right _ (by omega)
    rw [Nat.succ_mul] at h64
    have em1 : (x : Int) * ((nsz (d + 1) : Nat) : Int) = ((x * nsz (d + 1) : Nat) : Int) := by rw [Int.natCast_mul]
    have em2 : ((x : Int) + 1) * ((nsz (d + 1) : Nat) : Int) = ((x * nsz (d + 1) + nsz (d + 1) : Nat) : Int) := by rw [← Nat.succ_mul, Int.natCast_mul]; rfl
    have el : (base : Int) + (x : Int) * ((nsz (d + 1) : Nat) : Int) = ((digLo d base x : Nat) : Int) := by unfold digLo; rw [if_pos h5', em1, Int.natCast_add]
    have eh : (base : Int) + ((x : Int) + 1) * ((nsz (d + 1) : Nat) : Int) = ((digHi d base x : Nat) : Int) := by
      have hok : digOk d x = true := by unfold digOk; rw [decide_eq_true h5']; rfl
      unfold digHi digLo; rw [if_pos hok, if_pos h5', em2]; omega
    have i1 : InK .u64 ((x : Int) * ((nsz (d + 1) : Nat) : Int)) := by rw [em1]; simp only [InK]; omega
    have i2 : InK .u64 (((x : Int) + 1) * ((nsz (d + 1) : Nat) : Int)) := by rw [em2]; simp only [InK]; omega
    have i3 : InK .u64 ((base : Int) + (x : Int) * ((nsz (d + 1) : Nat) : Int)) := by rw [em1]; simp only [InK]; omega
    have i4 : InK .u64 ((base : Int) + ((x : Int) + 1) * ((nsz (d + 1) : Nat) : Int)) := by rw [em2]; simp only [InK]; omega
    clear e1 em1 em2 h64 hdig
    refine V_skip ?_
    refine then_normal ?_
    refine V_seq ?_
    refine V_region ?_
    (apply Ops_q; (case hon => (exact Va)); (case hd => rfl); (case hq => exact Yl_move rfl))
    (apply Ops_q; (case hon => (exact Va)); (case hd => rfl); (case hq => exact YlA))
    (apply Ops_q; (case hon => (exact Va)); (case hd => rfl); (case hq => exact YlA))
    (apply Ops_q; (case hon => (exact Va)); (case hd => rfl); (case hq => exact YlA))
    rw [es]
    repeat (first | refine Vx ?_ | (apply Ops_q; (case hon => exact Va); (case hd => rfl); (case hq => exact YlA)) | refine Vr ?_ | refine Vt ?_ | refine Vf ?_ | refine Vm ?_ | refine Ve ?_ | refine Vo ?_ | refine Vz ?_ | refine Vn ?_)
    rw [el, eh]
    refine ret2 (by first | exact .inl rfl | exact .inr rfl) rfl rfl rfl ?_
    exact Ret_mk rfl (Ext.refl _)
end Go.Proofs.Ytjpnaofoeeegeaa


/-
  Stride tables (layer 8): the reference's runs, Table.
  Conditions: the lists are not too long for a machine; the words are words of 64 bits.
-/
namespace Go.Proofs.Ytjpnaofoeeegeaa
open Go.RowKit

/-- What runs returns. -/
def RnR (base0 : Nat) (g : Nat → Int) (hi : Nat) (v : Value) (w0 : World) (r : Value) (w' : World) : Prop :=
  ∃ R : List Rn, Canon g R hi ∧ Own w' base0 100 3 r ((trs R hi).map trC) ∧ ∀ c, r.ownBlock = some c → v.ownBlock = some c ∨ w0.heap.size ≤ c
structure RnS (w0 : World) (base0 : Nat) (g : Nat → Int) (v0 : Value) (b5 b11 : Nat) (cs5 cs11 : List Value) (hi : Nat) (v : Value) (R : List Rn) (w : World) : Prop where
  md : Mod (fun c => v0.ownBlock = some c) w0 w
  own : Own w base0 100 3 v ((trs R hi).map trC)
  can : Canon g R hi
  fr : ∀ c, v.ownBlock = some c → v0.ownBlock = some c ∨ w0.heap.size ≤ c
  k5 : Blk w b5 32 cs5
  k11 : Blk w b11 73 cs11
section
variable {w0 w w1 w2 : World} {base0 : Nat} {g : Nat → Int} {v0 v v' : Value} {b5 b11 : Nat} {cs5 cs11 : List Value} {hi hi' : Nat} {R R' : List Rn}
theorem RnS.ext (h : RnS w0 base0 g v0 b5 b11 cs5 cs11 hi v R w) (he : Ext w w1) : RnS w0 base0 g v0 b5 b11 cs5 cs11 hi v R w1 := ⟨h.md.ext he, h.own.ext he, h.can, h.fr, h.k5.ext he, h.k11.ext he⟩
theorem RnS.grow (h : RnS w0 base0 g v0 b5 b11 cs5 cs11 hi v R w) (gr : w.grownBy w1 v.ownBlock) (o : Own w1 base0 100 3 v' ((trs R' hi').map trC)) (hd : v'.ownBlock = v.ownBlock ∨ ∃ b, v'.ownBlock = some b ∧ w.heap.size ≤ b) (hC : Canon g R' hi') : RnS w0 base0 g v0 b5 b11 cs5 cs11 hi' v' R' w1 := by
  refine ⟨h.md.grow gr h.fr, o, hC, fun c hc => ?_, grow_blk gr h.k5 (fun e => own_blk_ne h.own h.k5 rfl e.symm), grow_blk gr h.k11 (fun e => own_blk_ne h.own h.k11 rfl e.symm)⟩
  rcases hd with h1 | ⟨b, h1, h2⟩
  · rw [h1] at hc; exact h.fr c hc
  · rw [h1] at hc; cases hc; exact .inr (Nat.le_trans h.md.size h2)
theorem RnS.call (h : RnS w0 base0 g v0 b5 b11 cs5 cs11 hi v R w) (e0 : Ext w w1) (m : Mod (fun c => v.ownBlock = some c) w1 w2) (hR : RnR base0 g hi' v w1 v' w2) : ∃ R', RnS w0 base0 g v0 b5 b11 cs5 cs11 hi' v' R' w2 := by
  obtain ⟨R', hC, o, hf⟩ := hR
  have h1 := h.ext e0
  refine ⟨R', h1.md.trans' m h.fr, o, hC, fun c hc => ?_, m.blk h1.k5 (own_blk_ne h1.own h1.k5 rfl), m.blk h1.k11 (own_blk_ne h1.own h1.k11 rfl)⟩
  rcases hf c hc with h2 | h2
  · exact h.fr c h2
  · exact .inr (Nat.le_trans h1.md.size h2)
end
theorem set_trC (T : List Tr) (i : Nat) (t : Tr) (hi : Nat) : (T.map trC).set i ((trC t).set 1 (.int .u64 hi)) = (T.set i (t.1, hi, t.2.2)).map trC := by rw [List.map_set]; rfl
set_option maxHeartbeats 4000000 in
theorem runsR_v (aN aL : Option Addr) (N : List Nd) (L : List Int) (cN cL base0 : Nat) (g : Nat → Int) (hW : NdW N) (hg : GeM g) (hc : IsCf g N L) (hn : N.length ≤ 1000000) (hl : L.length ≤ 1000000) : ∀ m d, d + m = 5 → ∀ (node base : Nat) (v : Value) (R : List Rn) (w : World), TabM w base0 aN aL N L → node < N.length → XpGood g N L node (base, d) →
    Own w base0 100 3 v ((trs R base).map trC) → Canon g R base → base0 ≤ w.heap.size →
    Calls Try.prog 61 #[.agg #[.slice aN N.length cN, .slice aL L.length cL], .int .i64 node, .int .u64 base, .int .i64 d, v] w (Does (fun c => v.ownBlock = some c) (RnR base0 g (base + nsz d) v w) w) := by
  have hR := hc.reg hg
  intro m
  induction m using Nat.strongRecOn with
  | ind m ih =>
  intro d hdm node base v R w hT hnode hG hO hC hb0
  obtain ⟨x, hx⟩ : ∃ x, N[node]? = some x := ⟨_, List.getElem?_eq_getElem hnode⟩
  obtain ⟨hx1, hx2⟩ := hW x (List.mem_of_getElem? hx)
  obtain ⟨hxn, hxf, _⟩ := hR.at_ node x hx
  obtain ⟨ad, rfl, _, hcN⟩ := hT.hN node x hx
  have hd5 : d ≤ 5 := by omega
  have h32 : base + nsz d ≤ 4294967296 := hG.ok.2
  have hS : ∀ c, v.ownBlock = some c → base0 ≤ c := fun c h => hO.ge h
  have hlfl := hR.lf_le (Nat.le_of_lt hnode)
  have hndn := hR.nd_le (Nat.le_of_lt hnode)
  refine V_enter (vs := [_, _, _, _, _]) Try.func61 rfl Try.ntmps61 (Nat.le_of_ble_eq_true rfl) ?_
  repeat (first | refine Vx ?_ | (apply Ops_q; (case hon => exact Va); (case hd => rfl); (case hq => exact YlA)) | refine Vr ?_ | refine Vt ?_ | refine Vf ?_ | refine Vm ?_ | refine Ve ?_ | refine Vo ?_ | refine Vz ?_ | refine Vn ?_)
  (refine Ops_box (by exact Va) rfl rfl rfl ?_; intro w1 b5 n_b5; have k_b5 := n_b5.blk)
  have x1 := n_b5.ext
  have hcN1 : Cells w1 (ad.add (node * 4)) [.int .u64 x.inner, .int .u64 x.leaf, .int .i64 (ndC N node), .int .i64 (lfC N node)] := by rw [← hxn, ← hxf]; exact hcN.ext x1
  clear n_b5 hcN hxn hxf
  repeat (first | refine Vx ?_ | (apply Ops_q; (case hon => exact Va); (case hd => rfl); (case hq => exact YlA)) | refine Vr ?_ | refine Vt ?_ | refine Vf ?_ | refine Vm ?_ | refine Ve ?_ | refine Vo ?_ | refine Vz ?_ | refine Vn ?_)
  (apply Ops_q; (case hon => (exact Va)); (case hd => rfl); (case hq => exact Yl_indexS (j := node) rfl rfl (by omega)))
  repeat (first | refine Vx ?_ | (apply Ops_q; (case hon => exact Va); (case hd => rfl); (case hq => exact YlA)) | refine Vr ?_ | refine Vt ?_ | refine Vf ?_ | refine Vm ?_ | refine Ve ?_ | refine Vo ?_ | refine Vz ?_ | refine Vn ?_)
  (refine Ops_alloc (by exact Va) rfl ?_; intro w2 b11 n_b11; have k_b11 := n_b11.blk)
  have x2 := x1.trans n_b11.ext
  have g11 : w.heap.size ≤ b11 := Nat.le_trans x1.size n_b11.ge
  have n5 : b5 ≠ b11 := Nat.ne_of_lt (Nat.lt_of_lt_of_le k_b5.lt n_b11.ge)
  replace k_b5 := k_b5.ext n_b11.ext
  clear n_b11 x1 hcN1
  repeat (first | refine Vx ?_ | (apply Ops_q; (case hon => exact Va); (case hd => rfl); (case hq => exact YlA)) | refine Vr ?_ | refine Vt ?_ | refine Vf ?_ | refine Vm ?_ | refine Ve ?_ | refine Vo ?_ | refine Vz ?_ | refine Vn ?_)
  (refine Ops_store (by exact Va) rfl rfl (by assumption) (by first | rfl | exact OneAll.h) ?_; intro w3 u_w3; have k_b11 := u_w3.blk)
  replace k_b5 := u_w3.keep k_b5 n5
  have x3 := u_w3.below x2 g11
  clear u_w3 x2
  have hS0 : RnS w base0 g v b5 b11 [.slice (some ad) N.length cN, .slice aL L.length cL] [.int .u64 x.inner, .int .u64 x.leaf, .int .i64 (ndC N node), .int .i64 (lfC N node)] (digTo d base 0) v R w3 :=
    ⟨.of_ext x3, by rw [digTo_zero]; exact hO.ext x3, by rw [digTo_zero]; exact hC, fun c h => .inl h, k_b5, k_b11⟩
  clear k_b5 k_b11 x3 hC hO
  repeat (first | refine Vx ?_ | (apply Ops_q; (case hon => exact Va); (case hd => rfl); (case hq => exact YlA)) | refine Vr ?_ | refine Vt ?_ | refine Vf ?_ | refine Vm ?_ | refine Ve ?_ | refine Vo ?_ | refine Vz ?_ | refine Vn ?_)
  refine V_loop (fun s : Nat × Value × List Rn => [(12, .int .i64 s.1), (4, s.2.1), (5, .pointer (some ⟨b5, 0, none⟩)), (11, .pointer (some ⟨b11, 0, none⟩)), (2, .int .u64 base), (3, .int .i64 d)])
    (fun s w' => s.1 ≤ 64 ∧ RnS w base0 g v b5 b11 [.slice (some ad) N.length cN, .slice aL L.length cL] [.int .u64 x.inner, .int .u64 x.leaf, .int .i64 (ndC N node), .int .i64 (lfC N node)] (digTo d base s.1) s.2.1 s.2.2 w') (fun s => 64 - s.1) (0, v, R) (by repeat (first | exact trivial | refine ⟨rfl, ?_⟩)) ⟨Nat.zero_le _, hS0⟩ ?_
  clear hS0
  rintro ⟨k, v1, R1⟩ w4 ⟨hk64, h⟩
  dsimp only at hk64 h ⊢
  repeat (first | refine Vx ?_ | (apply Ops_q; (case hon => exact Va); (case hd => rfl); (case hq => exact YlA)) | refine Vr ?_ | refine Vt ?_ | refine Vf ?_ | refine Vm ?_ | refine Ve ?_ | refine Vo ?_ | refine Vz ?_ | refine Vn ?_)
  refine V_cond rfl (fun hgd => ?_) (fun hgd => ?_)
  · have hk : k < 64 := by have := of_decide_eq_true hgd; omega
    clear hgd
    have hdig := dig_in (base := base) hd5 hk
    have hnp := nsz_pos (d + 1)
    have k5 := h.k5
    have k11 := h.k11
    repeat (first | refine Vx ?_ | (apply Ops_q; (case hon => exact Va); (case hd => rfl); (case hq => exact YlA)) | refine Vr ?_ | refine Vt ?_ | refine Vf ?_ | refine Vm ?_ | refine Ve ?_ | refine Vo ?_ | refine Vz ?_ | refine Vn ?_)
    (apply Ops_q; (case hon => (exact Va)); (case hd => rfl); (case hq => exact Yl_call rfl (fun w_ e_ => blockR_v base d k w_ hd5 hk h32)))
    repeat (first | refine Vx ?_ | (apply Ops_q; (case hon => exact Va); (case hd => rfl); (case hq => exact YlA)) | refine Vr ?_ | refine Vt ?_ | refine Vf ?_ | refine Vm ?_ | refine Ve ?_ | refine Vo ?_ | refine Vz ?_ | refine Vn ?_)
    cases hok : digOk d k with
    | false =>
      have d1 : decide (((digLo d base k : Nat) : Int) = ((digHi d base k : Nat) : Int)) = true := decide_eq_true (by unfold digHi; rw [hok]; rfl)
      refine V_yes rfl d1 ?_
      repeat (first | refine Vx ?_ | (apply Ops_q; (case hon => exact Va); (case hd => rfl); (case hq => exact YlA)) | refine Vr ?_ | refine Vt ?_ | refine Vf ?_ | refine Vm ?_ | refine Ve ?_ | refine Vo ?_ | refine Vz ?_ | refine Vn ?_)
      refine ⟨(k + 1, v1, R1), (by repeat (first | exact trivial | refine ⟨rfl, ?_⟩)), ⟨hk, ?_⟩, by simp only; omega⟩
      dsimp only
      rw [(digTo_skip (base := base) hd5 hok).2]; exact h
    | true =>
      have eH : digHi d base k = digLo d base k + nsz (d + 1) := by unfold digHi; rw [hok]; rfl
      have d1 : decide (((digLo d base k : Nat) : Int) = ((digHi d base k : Nat) : Int)) = false := decide_eq_false (by rw [eH]; omega)
      obtain ⟨t1, t2⟩ := digTo_ok (base := base) hd5 hok
      rw [t1] at h
      refine V_no rfl d1 ?_
      rw [eH]
      rw [eH] at d1
      generalize hlo : digLo d base k = lo at *
      have hb := and_one64 x.inner k hx1
      repeat (first | refine Vx ?_ | (apply Ops_q; (case hon => exact Va); (case hd => rfl); (case hq => exact YlA)) | refine Vr ?_ | refine Vt ?_ | refine Vf ?_ | refine Vm ?_ | refine Ve ?_ | refine Vo ?_ | refine Vz ?_ | refine Vn ?_)
      rw [hb]
      by_cases hbit : x.inner / 2 ^ k % 2 = 1
      · obtain ⟨hin, _, hG2⟩ := hG.kid hnode hx hk hbit
        have h5 := (inB_of hd5 hin).2.1
        have hkid := hR.kid hx hk hbit
        have e1 : (ndC N node : Int) + (rankN x.inner k : Int) = ((ndC N node + rankN x.inner k : Nat) : Int) := by rw [Int.natCast_add]
        have ed : (d : Int) + 1 = ((d + 1 : Nat) : Int) := by omega
        have d2 : decide (((x.inner / 2 ^ k % 2 : Nat) : Int) = 1) = true := decide_eq_true (by omega)
        have hrk := rankN_le x.inner k
        dsimp only at hG2
        rw [hlo] at hG2
        refine V_yes rfl d2 ?_
        repeat (first | refine Vx ?_ | (apply Ops_q; (case hon => exact Va); (case hd => rfl); (case hq => exact YlA)) | refine Vt ?_ | refine Vf ?_ | refine Vm ?_ | refine Ve ?_ | refine Vo ?_ | refine Vz ?_ | refine Vn ?_)
        refine V_region_mixed 12 (by kernel_rfl) (by kernel_rfl) rfl ?_
        repeat (first | refine Vx ?_ | (apply Ops_q; (case hon => exact Va); (case hd => rfl); (case hq => exact YlA)) | refine Vr ?_ | refine Vt ?_ | refine Vf ?_ | refine Vm ?_ | refine Ve ?_ | refine Vo ?_ | refine Vz ?_ | refine Vn ?_)
        (apply Ops_q; (case hon => (exact Va)); (case hd => rfl); (case hq => exact Yl_call rfl (fun w_ e_ => ronesR_v x.inner k w_ hx1 (Nat.le_of_lt hk))))
        repeat (first | refine Vx ?_ | (apply Ops_q; (case hon => exact Va); (case hd => rfl); (case hq => exact YlA)) | refine Vr ?_ | refine Vt ?_ | refine Vf ?_ | refine Vm ?_ | refine Ve ?_ | refine Vo ?_ | refine Vz ?_ | refine Vn ?_)
        rw [e1, ed]
        refine Ops_callM (S := fun c => v1.ownBlock = some c) (R := fun w0' => RnR base0 g (lo + nsz (d + 1)) v1 w0') (by exact Va) rfl rfl (fun w_ e_ => ih (5 - (d + 1)) (by omega) (d + 1) (by omega) _ lo v1 R1 w_ ((hT.mod h.md hS).mod (Mod.of_ext (S := fun _ => False) e_) (fun _ h => h.elim)) hkid hG2 (h.own.ext e_) h.can (Nat.le_trans (Nat.le_trans hb0 h.md.size) e_.size)) ?_
        intro v6 w6 w0_ e0 m6 hR6
        obtain ⟨R6, h6⟩ := h.call e0 m6 hR6
        repeat (first | refine Vx ?_ | (apply Ops_q; (case hon => exact Va); (case hd => rfl); (case hq => exact YlA)) | refine Vr ?_ | refine Vt ?_ | refine Vf ?_ | refine Vm ?_ | refine Ve ?_ | refine Vo ?_ | refine Vz ?_ | refine Vn ?_)
        refine ⟨(k + 1, v6, R6), (by repeat (first | exact trivial | refine ⟨rfl, ?_⟩)), ⟨hk, ?_⟩, by simp only; omega⟩
        dsimp only
        rw [t2]; exact h6
      · obtain ⟨q1, q2⟩ := hG.leaf hnode hx hk hbit
        obtain ⟨q3, q4⟩ := q2 hok
        dsimp only at q3 q4
        rw [hlo] at q3 q4
        have hlf := hR.leaf hx (show k + 1 ≤ 64 from hk) q1
        have d2 : decide (((x.inner / 2 ^ k % 2 : Nat) : Int) = 1) = false := decide_eq_false (by omega)
        have hTi := (hT.mod h.md hS).ins
        have hext : Canon g (extR R1 lo (g lo)) (lo + nsz (d + 1)) := h.can.ext (by omega) (fun _ _ => rfl) (fun a h1 h2 => q4 a h1 h2)
        have hRl := h.can.len
        have hlen : ((trs R1 lo).map trC).length ≤ 4294967296 := by rw [List.length_map, trs_len]; omega
        refine V_no rfl d2 ?_
        repeat (first | refine Vx ?_ | (apply Ops_q; (case hon => exact Va); (case hd => rfl); (case hq => exact YlA)) | refine Vr ?_ | refine Vt ?_ | refine Vf ?_ | refine Vm ?_ | refine Ve ?_ | refine Vo ?_ | refine Vz ?_ | refine Vn ?_)
        (apply Ops_q; (case hon => (exact Va)); (case hd => rfl); (case hq => exact Yl_call rfl (fun w_ e_ => leafR_v (some ad) aL N.length L cN cL x (ndC N node) (lfC N node) k w_ (hTi.ext e_) hx2 hk q1 hlf (by omega) (by omega))))
        rw [q3]
        generalize hval : g lo = val at *
        cases hlast : R1.getLast? with
        | none =>
          have hnil := List.getLast?_eq_none_iff.1 hlast
          have hex : extR R1 lo val = R1 ++ [(lo, val)] := by unfold extR; rw [hlast]
          obtain ⟨ao, c, hv1, _⟩ := h.own.slice
          rw [List.length_map, trs_len, hnil] at hv1
          subst hv1
          repeat (first | refine Vx ?_ | (apply Ops_q; (case hon => exact Va); (case hd => rfl); (case hq => exact YlA)) | refine Vr ?_ | refine Vt ?_ | refine Vf ?_ | refine Vm ?_ | refine Ve ?_ | refine Vo ?_ | refine Vz ?_ | refine Vn ?_)
          repeat (first | refine Vx ?_ | (apply Ops_q; (case hon => exact Va); (case hd => rfl); (case hq => exact YlA)) | refine Vr ?_ | refine Vt ?_ | refine Vf ?_ | refine Vm ?_ | refine Ve ?_ | refine Vo ?_ | refine Vz ?_ | refine Vn ?_)
          (refine Ops_lit (by exact Va) rfl rfl rfl ?_; intro w6 bl n_bl; have k_bl := n_bl.blk)
          have h6 := h.ext n_bl.ext
          repeat (first | refine Vx ?_ | (apply Ops_q; (case hon => exact Va); (case hd => rfl); (case hq => exact YlA)) | refine Vr ?_ | refine Vt ?_ | refine Vf ?_ | refine Vm ?_ | refine Ve ?_ | refine Vo ?_ | refine Vz ?_ | refine Vn ?_)
          (refine Ops_append1 (by exact Va) rfl rfl rfl rfl h6.own k_bl.cells inferInstance inferInstance (by first | omega | (rw [List.length_map]; omega)) rfl (Nat.le_trans hb0 h6.md.size) ?_; intro v7 w7 o_v7 g_w7 d_v7)
          have h7 := h6.grow (hi' := lo + nsz (d + 1)) (R' := R1 ++ [(lo, val)]) g_w7 (by rw [trs_snoc, List.map_append]; exact o_v7) d_v7 (by rw [← hex]; exact hext)
          repeat (first | refine Vx ?_ | (apply Ops_q; (case hon => exact Va); (case hd => rfl); (case hq => exact YlA)) | refine Vr ?_ | refine Vt ?_ | refine Vf ?_ | refine Vm ?_ | refine Ve ?_ | refine Vo ?_ | refine Vz ?_ | refine Vn ?_)
          refine ⟨(k + 1, v7, R1 ++ [(lo, val)]), (by repeat (first | exact trivial | refine ⟨rfl, ?_⟩)), ⟨hk, ?_⟩, by simp only; omega⟩
          dsimp only
          rw [t2]; exact h7
        | some r =>
          have hrne : (trs R1 lo).map trC ≠ [] := fun e => by
            have := congrArg List.length e
            rw [List.length_map, trs_len] at this
            rw [List.length_eq_zero_iff.1 this] at hlast; cases hlast
          have hpos : 0 < R1.length := List.length_pos_iff.2 (fun e => by rw [e] at hlast; cases hlast)
          obtain ⟨gr, cR, hv1, _⟩ := h.own.addr hrne
          subst hv1
          obtain ⟨ha1, ha2⟩ := trs_grow lo (lo + nsz (d + 1)) hlast
          have hoc := h.own
          obtain ⟨ao', c', e1, hA⟩ := hoc.slice
          cases e1
          obtain ⟨ad', e2, hcc⟩ := hA (R1.length - 1) (trC (r.1, lo, r.2)) (by rw [List.getElem?_map, ha1]; rfl)
          cases e2
          have hcv : w4.cell? (((⟨gr, 0, none⟩ : Addr).add ((R1.length - 1) * 3)).add 2) = some (.int .i64 r.2) := hcc 2 _ rfl
          have ei : (R1.length : Int) - 1 = ((R1.length - 1 : Nat) : Int) := by omega
          have d3 : decide ((0 : Int) ≤ ((R1.length - 1 : Nat) : Int)) = true := decide_eq_true (by omega)
          have elen : ((trs R1 lo).map trC).length = R1.length := by rw [List.length_map, trs_len]
          rw [elen] at hoc ⊢
          clear hA hcc
          repeat (first | refine Vx ?_ | (apply Ops_q; (case hon => exact Va); (case hd => rfl); (case hq => exact YlA)) | refine Vr ?_ | refine Vt ?_ | refine Vf ?_ | refine Vm ?_ | refine Ve ?_ | refine Vo ?_ | refine Vz ?_ | refine Vn ?_)
          rw [ei]
          refine Ops_know rfl rfl d3 ?_
          repeat (first | refine Vx ?_ | (apply Ops_q; (case hon => exact Va); (case hd => rfl); (case hq => exact YlA)) | refine Vr ?_ | refine Vt ?_ | refine Vf ?_ | refine Vm ?_ | refine Ve ?_ | refine Vo ?_ | refine Vz ?_ | refine Vn ?_)
          (apply Ops_q; (case hon => (exact Va)); (case hd => rfl); (case hq => exact Yl_indexS (j := R1.length - 1) rfl rfl (by omega)))
          repeat (first | refine Vx ?_ | (apply Ops_q; (case hon => exact Va); (case hd => rfl); (case hq => exact YlA)) | refine Vr ?_ | refine Vt ?_ | refine Vf ?_ | refine Vm ?_ | refine Ve ?_ | refine Vo ?_ | refine Vz ?_ | refine Vn ?_)
          by_cases he : r.2 = val
          · have d4 : decide (r.2 = val) = true := decide_eq_true he
            have hex : extR R1 lo val = R1 := by unfold extR; rw [hlast]; exact if_pos he
            refine V_yes rfl d4 ?_
            repeat (first | refine Vx ?_ | (apply Ops_q; (case hon => exact Va); (case hd => rfl); (case hq => exact YlA)) | refine Vr ?_ | refine Vt ?_ | refine Vf ?_ | refine Vm ?_ | refine Ve ?_ | refine Vo ?_ | refine Vz ?_ | refine Vn ?_)
            (apply Ops_q; (case hon => (exact Va)); (case hd => rfl); (case hq => exact Yl_indexS (j := R1.length - 1) rfl rfl (by omega)))
            repeat (first | refine Vx ?_ | (apply Ops_q; (case hon => exact Va); (case hd => rfl); (case hq => exact YlA)) | refine Vr ?_ | refine Vt ?_ | refine Vf ?_ | refine Vm ?_ | refine Ve ?_ | refine Vo ?_ | refine Vz ?_ | refine Vn ?_)
            refine Ops_storeOwn (i := R1.length - 1) (f := 1) (xi := trC (r.1, lo, r.2)) (by exact Va) rfl rfl (by rw [add_blk, add_blk, Nat.zero_add]) h.own (by rw [List.getElem?_map, ha1]; rfl) (by omega) rfl ?_
            intro w7 o7 g7
            rw [set_trC, ← ha2] at o7
            have h7 := h.grow (hi' := lo + nsz (d + 1)) (R' := R1) g7 o7 (.inl rfl) (by rw [← hex]; exact hext)
            rw [elen] at h7
            repeat (first | refine Vx ?_ | (apply Ops_q; (case hon => exact Va); (case hd => rfl); (case hq => exact YlA)) | refine Vr ?_ | refine Vt ?_ | refine Vf ?_ | refine Vm ?_ | refine Ve ?_ | refine Vo ?_ | refine Vz ?_ | refine Vn ?_)
            refine ⟨(k + 1, _, R1), (by repeat (first | exact trivial | refine ⟨rfl, ?_⟩)), ⟨hk, ?_⟩, by simp only; omega⟩
            dsimp only
            rw [t2]; exact h7
          · have d4 : decide (r.2 = val) = false := decide_eq_false he
            have hex : extR R1 lo val = R1 ++ [(lo, val)] := by unfold extR; rw [hlast]; exact if_neg he
            rw [elen] at h
            refine V_no rfl d4 ?_
            repeat (first | refine Vx ?_ | (apply Ops_q; (case hon => exact Va); (case hd => rfl); (case hq => exact YlA)) | refine Vr ?_ | refine Vt ?_ | refine Vf ?_ | refine Vm ?_ | refine Ve ?_ | refine Vo ?_ | refine Vz ?_ | refine Vn ?_)
            (refine Ops_lit (by exact Va) rfl rfl rfl ?_; intro w6 bl n_bl; have k_bl := n_bl.blk)
            have h6 := h.ext n_bl.ext
            repeat (first | refine Vx ?_ | (apply Ops_q; (case hon => exact Va); (case hd => rfl); (case hq => exact YlA)) | refine Vr ?_ | refine Vt ?_ | refine Vf ?_ | refine Vm ?_ | refine Ve ?_ | refine Vo ?_ | refine Vz ?_ | refine Vn ?_)
            (refine Ops_append1 (by exact Va) rfl rfl rfl rfl h6.own k_bl.cells inferInstance inferInstance (by first | omega | (rw [List.length_map]; omega)) rfl (Nat.le_trans hb0 h6.md.size) ?_; intro v7 w7 o_v7 g_w7 d_v7)
            have h7 := h6.grow (hi' := lo + nsz (d + 1)) (R' := R1 ++ [(lo, val)]) g_w7 (by rw [trs_snoc, List.map_append]; exact o_v7) d_v7 (by rw [← hex]; exact hext)
            repeat (first | refine Vx ?_ | (apply Ops_q; (case hon => exact Va); (case hd => rfl); (case hq => exact YlA)) | refine Vr ?_ | refine Vt ?_ | refine Vf ?_ | refine Vm ?_ | refine Ve ?_ | refine Vo ?_ | refine Vz ?_ | refine Vn ?_)
            refine ⟨(k + 1, v7, R1 ++ [(lo, val)]), (by repeat (first | exact trivial | refine ⟨rfl, ?_⟩)), ⟨hk, ?_⟩, by simp only; omega⟩
            dsimp only
            rw [t2]; exact h7
  · obtain rfl : k = 64 := by have := of_decide_eq_false hgd; omega
    rw [digTo_end base hd5] at h
    repeat (first | refine Vx ?_ | (apply Ops_q; (case hon => exact Va); (case hd => rfl); (case hq => exact YlA)) | refine Vr ?_ | refine Vt ?_ | refine Vf ?_ | refine Vm ?_ | refine Ve ?_ | refine Vo ?_ | refine Vz ?_ | refine Vn ?_)
    refine ret1 (by first | exact .inl rfl | exact .inr rfl) rfl rfl ?_
    exact Does_mk (fun w' he => ⟨R1, h.can, h.own.ext he, h.fr⟩) h.md
end Go.Proofs.Ytjpnaofoeeegeaa


/-
  Stride tables (layer 8): the reference's Range and Table.
  Conditions: the lists are not too long for a machine; the words are words of 64 bits.
-/
namespace Go.Proofs.Ytjpnaofoeeegeaa
open Go.RowKit

theorem prefsL_one (s : Sp) : prefsL [s] = prefL s.1 s.2 := by unfold prefsL; simp
set_option maxHeartbeats 1000000 in
theorem rangeR_v (lo hi : Nat) (w : World) (hlh : lo ≤ hi) (h32 : hi < 4294967296) :
    Calls Try.prog 62 #[.int .u32 lo, .int .u32 hi] w (Gives (fun r w' => ∃ v, r = .tuple #[v, .int .i64 0] ∧ Own w' w.heap.size 40 2 v ((prefL lo (hi + 1)).map Pf.cells)) w) := by
  refine V_enter (vs := [_, _]) Try.func62 rfl Try.ntmps62 (Nat.le_of_ble_eq_true rfl) ?_
  repeat (first | refine Vx ?_ | (apply Ops_q; (case hon => exact Va); (case hd => rfl); (case hq => exact YlA)) | refine Vr ?_ | refine Vt ?_ | refine Vf ?_ | refine Vm ?_ | refine Ve ?_ | refine Vo ?_ | refine Vz ?_ | refine Vn ?_)
  have d1 : decide ((hi : Int) < (lo : Int)) = false := decide_eq_false (by omega)
  refine V_no rfl d1 ?_
  have i1 : InK .u64 (lo : Int) := by simp only [InK]; omega
  have i2 : InK .u64 (hi : Int) := by simp only [InK]; omega
  have i3 : InK .u64 ((hi : Int) + 1) := by simp only [InK]; omega
  have e1 : (hi : Int) + 1 = ((hi + 1 : Nat) : Int) := by omega
  have hB : ∀ s ∈ [((lo, hi + 1) : Sp)], s.2 ≤ 4294967296 := fun s hs => by rw [List.mem_singleton.1 hs]; dsimp only; omega
  clear h32 hlh d1
  ((repeat (first | refine V_skip ?_ | refine then_normal ?_ | refine V_seq ?_ | refine V_block ?_)); (first | refine V_region ?_ | refine V_region_still rfl (by kernel_rfl) (by kernel_rfl) ?_))
  (apply Ops_q; (case hon => (exact Va)); (case hd => rfl); (case hq => exact Yl_move rfl))
  (apply Ops_q; (case hon => (exact Va)); (case hd => rfl); (case hq => exact Yl_conv_in rfl i1))
  (apply Ops_q; (case hon => (exact Va)); (case hd => rfl); (case hq => exact Yl_move rfl))
  (apply Ops_q; (case hon => (exact Va)); (case hd => rfl); (case hq => exact Yl_conv_in rfl i2))
  (apply Ops_q; (case hon => (exact Va)); (case hd => rfl); (case hq => exact Yl_arith_in rfl rfl rfl i3))
  rw [e1]
  clear i1 i2 i3 e1
  repeat (first | refine Vx ?_ | (apply Ops_q; (case hon => exact Va); (case hd => rfl); (case hq => exact YlA)) | refine Vr ?_ | refine Vt ?_ | refine Vf ?_ | refine Vm ?_ | refine Ve ?_ | refine Vo ?_ | refine Vz ?_ | refine Vn ?_)
  (refine Ops_lit (by exact Va) rfl rfl rfl ?_; intro w1 b1 n_b1; have k_b1 := n_b1.blk)
  have x1 := n_b1.ext
  have hA : Arr w1 2 (some ⟨b1, 0, none⟩) ([((lo, hi + 1) : Sp)].map spC) := fun k u hk => by
    have hk0 : k = 0 := by have := (List.getElem?_eq_some_iff.1 hk).1; simp at this; exact this
    subst hk0
    cases hk
    refine ⟨_, rfl, ?_⟩
    have := n_b1.blk.cells
    rw [add_blk]; exact this
  clear n_b1 k_b1
  repeat (first | refine Vx ?_ | (apply Ops_q; (case hon => exact Va); (case hd => rfl); (case hq => exact YlA)) | refine Vr ?_ | refine Vt ?_ | refine Vf ?_ | refine Vm ?_ | refine Ve ?_ | refine Vo ?_ | refine Vz ?_ | refine Vn ?_)
  (refine Ops_callR (by exact Va) rfl rfl (fun w_ e_ => prefixesR_v (some ⟨b1, 0, none⟩) [(lo, hi + 1)] _ w_ (hA.ext e_) hB (by simp)) ?_; intro v2 w2 w0_ e0_ e1_ r_v2; have e_w2 := e0_.trans e1_; have b_v2 := e0_.size; clear e0_ e1_)
  rw [prefsL_one] at r_v2
  repeat (first | refine Vx ?_ | (apply Ops_q; (case hon => exact Va); (case hd => rfl); (case hq => exact YlA)) | refine Vr ?_ | refine Vt ?_ | refine Vf ?_ | refine Vm ?_ | refine Ve ?_ | refine Vo ?_ | refine Vz ?_ | refine Vn ?_)
  refine ret2 (by first | exact .inl rfl | exact .inr rfl) rfl rfl rfl ?_
  exact Gives_mk (fun w' he => ⟨_, rfl, (r_v2.ext he).mono (Nat.le_trans x1.size b_v2)⟩) (x1.trans e_w2)
/-! ### Table -/
theorem runE_pref {g : Nat → Int} {R : List Rn} (hC : Canon g R 4294967296) {i : Nat} {r : Rn} (hr : R[i]? = some r) : runE R i = if 0 ≤ r.2 then (prefL r.1 (nxtR R i 4294967296)).map fun p => ⟨p, r.2⟩ else [] := by
  obtain ⟨h1, h2⟩ := hC.nxt hr
  unfold runE
  rw [hr]
  dsimp only
  rw [pcs_run h1 h2]
set_option maxHeartbeats 4000000 in
theorem tableR8_v (aN aL : Option Addr) (N : List Nd) (L : List Int) (cN cL : Nat) (w : World) (hN : Nds w aN N) (hL : Ins w aL L) (hW : NdW N) (hn : N.length ≤ 1000000) (hl : L.length ≤ 1000000) (hcap : L.length ≤ cL) :
    Calls Try.prog 28 #[.agg #[.slice aN N.length cN, .slice aL L.length cL]] w (Gives (TblR N L w) w) := by
  refine V_enter (vs := [_]) Try.func28 rfl Try.ntmps28 (Nat.le_of_ble_eq_true rfl) ?_
  repeat (first | refine Vx ?_ | (apply Ops_q; (case hon => exact Va); (case hd => rfl); (case hq => exact YlA)) | refine Vr ?_ | refine Vt ?_ | refine Vf ?_ | refine Vm ?_ | refine Ve ?_ | refine Vo ?_ | refine Vz ?_ | refine Vn ?_)
  (refine Ops_box (by exact Va) rfl rfl rfl ?_; intro w1 b1 n_b1; have k_b1 := n_b1.blk)
  have x1 := n_b1.ext
  clear n_b1
  repeat (first | refine Vx ?_ | (apply Ops_q; (case hon => exact Va); (case hd => rfl); (case hq => exact YlA)) | refine Vr ?_ | refine Vt ?_ | refine Vf ?_ | refine Vm ?_ | refine Ve ?_ | refine Vo ?_ | refine Vz ?_ | refine Vn ?_)
  (refine Ops_callR (by exact Va) rfl rfl (fun w_ e_ => checkR8_v aN aL N L cN cL w_ (hN.ext (x1.trans e_)) (hL.ext (x1.trans e_)) hW hn hl hcap) ?_; intro vr w2 w0_ e0_ e1_ r_vr; have e_w2 := e0_.trans e1_; have b_vr := e0_.size; clear e0_ e1_)
  obtain ⟨v, rfl, hv⟩ := r_vr
  have x2 := x1.trans e_w2
  replace k_b1 := k_b1.ext e_w2
  clear b_vr e_w2 x1
  repeat (first | refine Vx ?_ | (apply Ops_q; (case hon => exact Va); (case hd => rfl); (case hq => exact YlA)) | refine Vr ?_ | refine Vt ?_ | refine Vf ?_ | refine Vm ?_ | refine Ve ?_ | refine Vo ?_ | refine Vz ?_ | refine Vn ?_)
  rcases hv with ⟨rfl, g, hg, hc⟩ | ⟨rfl, hno⟩
  · repeat (first | refine Vx ?_ | (apply Ops_q; (case hon => exact Va); (case hd => rfl); (case hq => exact YlA)) | refine Vr ?_ | refine Vt ?_ | refine Vf ?_ | refine Vm ?_ | refine Ve ?_ | refine Vo ?_ | refine Vz ?_ | refine Vn ?_)
    refine Ops_callM (S := fun c => (Value.slice none 0 0).ownBlock = some c) (R := fun w0' => RnR w2.heap.size g (0 + nsz 0) (.slice none 0 0) w0') (by exact Va) rfl rfl (fun w_ e_ => runsR_v aN aL N L cN cL w2.heap.size g hW hg hc hn hl 5 0 rfl 0 0 (.slice none 0 0) [] w_ (TabM.mod (TabM.of (hN.ext x2) (hL.ext x2) (Nat.le_refl _)) (Mod.of_ext (S := fun _ => False) e_) (fun _ h => h.elim)) hc.ne hc.good Own.nil (Canon.zero _) e_.size) ?_
    intro vr w3 w0_ e0 m3 hR
    obtain ⟨R, hC0, oR, _⟩ := hR
    have hC : Canon g R 4294967296 := hC0
    have oR' : Own w3 w2.heap.size 100 3 vr ((trs R 4294967296).map trC) := oR
    have e3 : Ext w2 w3 := Mod.ext_of e0 m3 (fun c hc => nomatch hc)
    have x3 := x2.trans e3
    obtain ⟨aR, cR, rfl, hAR⟩ := ownS oR'
    rw [trs_len]
    have hRl := hC.len
    clear e0 m3 oR oR' hC0 k_b1
    repeat (first | refine Vx ?_ | (apply Ops_q; (case hon => exact Va); (case hd => rfl); (case hq => exact YlA)) | refine Vr ?_ | refine Vt ?_ | refine Vf ?_ | refine Vm ?_ | refine Ve ?_ | refine Vo ?_ | refine Vz ?_ | refine Vn ?_)
    refine V_loop (fun s : Nat × Value => [(20, .int .i64 s.1), (19, .int .i64 R.length), (18, .slice aR R.length cR), (5, s.2)])
      (fun s w' => s.1 ≤ R.length ∧ Ext w3 w' ∧ Own w' w3.heap.size 42 3 s.2 ((tabE R s.1).map En.cells)) (fun s => R.length - s.1) (0, .slice none 0 0) (by repeat (first | exact trivial | refine ⟨rfl, ?_⟩)) ⟨Nat.zero_le _, Ext.refl _, Own.nil⟩ ?_
    rintro ⟨i, v⟩ w4 ⟨hi, x4, oT⟩
    dsimp only at hi oT ⊢
    repeat (first | refine Vx ?_ | (apply Ops_q; (case hon => exact Va); (case hd => rfl); (case hq => exact YlA)) | refine Vr ?_ | refine Vt ?_ | refine Vf ?_ | refine Vm ?_ | refine Ve ?_ | refine Vo ?_ | refine Vz ?_ | refine Vn ?_)
    refine V_cond rfl (fun hgd => ?_) (fun hgd => ?_)
    · have hil : i < R.length := by have := of_decide_eq_true hgd; omega
      clear hgd
      obtain ⟨r, hr⟩ : ∃ r, R[i]? = some r := ⟨_, List.getElem?_eq_getElem hil⟩
      have hrE := runE_pref hC hr
      obtain ⟨hx1, hx2⟩ := hC.nxt hr
      have htl := tabE_len hC i hi
      rw [hr] at htl
      dsimp only at htl
      obtain ⟨adR, rfl, hcR⟩ := hAR i (trC (r.1, nxtR R i 4294967296, r.2)) (by rw [List.getElem?_map, trs_at hr]; rfl)
      have hcR4 : Cells w4 (adR.add (i * 3)) [.int .u64 r.1, .int .u64 (nxtR R i 4294967296), .int .i64 r.2] := hcR.ext x4
      have hpl := prefL_len r.1 (nxtR R i 4294967296)
      generalize hnx : nxtR R i 4294967296 = nx at *
      obtain ⟨lo, val⟩ := r
      dsimp only at hx1 htl hcR4 hrE hpl
      have i1 : InK .u32 (lo : Int) := by simp only [InK]; omega
      have e2 : (nx : Int) - 1 = ((nx - 1 : Nat) : Int) := by omega
      have i2 : InK .u32 ((nx : Int) - 1) := by simp only [InK]; omega
      have i3 : InK .u64 ((nx : Int) - 1) := by simp only [InK]; omega
      have hrng := fun (w_ : World) => rangeR_v lo (nx - 1) w_ (by omega) (by omega)
      rw [show nx - 1 + 1 = nx by omega] at hrng
      generalize prefL lo nx = P at *
      clear hcR hnx
      repeat (first | refine Vx ?_ | (apply Ops_q; (case hon => exact Va); (case hd => rfl); (case hq => exact YlA)) | refine Vr ?_ | refine Vt ?_ | refine Vf ?_ | refine Vm ?_ | refine Ve ?_ | refine Vo ?_ | refine Vz ?_ | refine Vn ?_)
      (apply Ops_q; (case hon => (exact Va)); (case hd => rfl); (case hq => exact Yl_indexS (j := i) rfl rfl (by omega)))
      repeat (first | refine Vx ?_ | (apply Ops_q; (case hon => exact Va); (case hd => rfl); (case hq => exact YlA)) | refine Vr ?_ | refine Vt ?_ | refine Vf ?_ | refine Vm ?_ | refine Ve ?_ | refine Vo ?_ | refine Vz ?_ | refine Vn ?_)
      (refine Ops_alloc (by exact Va) rfl ?_; intro w5 b7 n_b7; have k_b7 := n_b7.blk)
      repeat (first | refine Vx ?_ | (apply Ops_q; (case hon => exact Va); (case hd => rfl); (case hq => exact YlA)) | refine Vr ?_ | refine Vt ?_ | refine Vf ?_ | refine Vm ?_ | refine Ve ?_ | refine Vo ?_ | refine Vz ?_ | refine Vn ?_)
      (refine Ops_store (by exact Va) rfl rfl (by assumption) (by first | rfl | exact OneAll.h) ?_; intro w6 u_w6; have k_b7 := u_w6.blk)
      have x6 := u_w6.below (x4.trans n_b7.ext) (Nat.le_trans x4.size n_b7.ge)
      have oT6 := oT.ext (u_w6.below n_b7.ext n_b7.ge)
      have g7 : w3.heap.size ≤ b7 := Nat.le_trans x4.size n_b7.ge
      clear u_w6 n_b7 oT x4 hcR4
      repeat (first | refine Vx ?_ | (apply Ops_q; (case hon => exact Va); (case hd => rfl); (case hq => exact YlA)) | refine Vr ?_ | refine Vt ?_ | refine Vf ?_ | refine Vm ?_ | refine Ve ?_ | refine Vo ?_ | refine Vz ?_ | refine Vn ?_)
      rw [e2]
      (refine Ops_callR (by exact Va) rfl rfl (fun w_ e_ => hrng w_) ?_; intro vp w7 w0_ e0_ e1_ r_vp; have e_w7 := e0_.trans e1_; have b_vp := e0_.size; clear e0_ e1_)
      obtain ⟨v7, rfl, oP⟩ := r_vp
      obtain ⟨aP, cP, rfl, _⟩ := ownS oP
      have x7 := x6.trans e_w7
      have hAP := oP.mono (Nat.le_trans x6.size b_vp)
      replace oT6 := oT6.ext e_w7
      replace k_b7 := k_b7.ext e_w7
      clear oP b_vp e_w7 x6 hrng
      repeat (first | refine Vx ?_ | (apply Ops_q; (case hon => exact Va); (case hd => rfl); (case hq => exact YlA)) | refine Vr ?_ | refine Vt ?_ | refine Vf ?_ | refine Vm ?_ | refine Ve ?_ | refine Vo ?_ | refine Vz ?_ | refine Vn ?_)
      refine V_loop (fun s : Nat × Value => [(37, .int .i64 s.1), (36, .int .i64 P.length), (35, .slice aP P.length cP), (7, .pointer (some ⟨b7, 0, none⟩)), (5, s.2), (20, .int .i64 i), (19, .int .i64 R.length), (18, .slice (some adR) R.length cR)])
        (fun s w' => s.1 ≤ P.length ∧ Ext w3 w' ∧ Own w' w3.heap.size 42 3 s.2 ((tabE R i ++ if 0 ≤ val then (P.take s.1).map (fun p => (⟨p, val⟩ : En)) else []).map En.cells) ∧ Blk w' b7 100 [.int .u64 lo, .int .u64 nx, .int .i64 val] ∧ Own w' w3.heap.size 40 2 (.slice aP P.length cP) (P.map Pf.cells)) (fun s => P.length - s.1) (0, v) (by repeat (first | exact trivial | refine ⟨rfl, ?_⟩))
        ⟨Nat.zero_le _, x7, by dsimp only; rw [List.take_zero, List.map_nil, ite_self, List.append_nil]; exact oT6, k_b7, hAP⟩ ?_
      clear oT6 k_b7 hAP x7
      rintro ⟨j, u⟩ w8 ⟨hj, x8, oT, kb7, hAP⟩
      dsimp only at hj oT ⊢
      repeat (first | refine Vx ?_ | (apply Ops_q; (case hon => exact Va); (case hd => rfl); (case hq => exact YlA)) | refine Vr ?_ | refine Vt ?_ | refine Vf ?_ | refine Vm ?_ | refine Ve ?_ | refine Vo ?_ | refine Vz ?_ | refine Vn ?_)
      refine V_cond rfl (fun hgd => ?_) (fun hgd => ?_)
      · have hjl : j < P.length := by have := of_decide_eq_true hgd; omega
        clear hgd
        obtain ⟨p, hp⟩ : ∃ p, P[j]? = some p := ⟨_, List.getElem?_eq_getElem hjl⟩
        obtain ⟨aP', cP', eP, hAA⟩ := ownS hAP
        cases eP
        obtain ⟨adP, rfl, hcP⟩ := hAA j p.cells (by rw [List.getElem?_map, hp]; rfl)
        have hcP8 : Cells w8 (adP.add (j * 2)) [.int .u32 p.a, .int .i64 p.n] := hcP
        have hta : P.take (j + 1) = P.take j ++ [p] := by rw [List.take_add_one, hp]; rfl
        repeat (first | refine Vx ?_ | (apply Ops_q; (case hon => exact Va); (case hd => rfl); (case hq => exact YlA)) | refine Vr ?_ | refine Vt ?_ | refine Vf ?_ | refine Vm ?_ | refine Ve ?_ | refine Vo ?_ | refine Vz ?_ | refine Vn ?_)
        (apply Ops_q; (case hon => (exact Va)); (case hd => rfl); (case hq => exact Yl_indexS (j := j) rfl rfl (by omega)))
        repeat (first | refine Vx ?_ | (apply Ops_q; (case hon => exact Va); (case hd => rfl); (case hq => exact YlA)) | refine Vr ?_ | refine Vt ?_ | refine Vf ?_ | refine Vm ?_ | refine Ve ?_ | refine Vo ?_ | refine Vz ?_ | refine Vn ?_)
        (refine Ops_alloc (by exact Va) rfl ?_; intro w9 b11 n_b11; have k_b11 := n_b11.blk)
        repeat (first | refine Vx ?_ | (apply Ops_q; (case hon => exact Va); (case hd => rfl); (case hq => exact YlA)) | refine Vr ?_ | refine Vt ?_ | refine Vf ?_ | refine Vm ?_ | refine Ve ?_ | refine Vo ?_ | refine Vz ?_ | refine Vn ?_)
        (refine Ops_store (by exact Va) rfl rfl (by assumption) (by first | rfl | exact OneAll.h) ?_; intro w10 u_w10; have k_b11 := u_w10.blk)
        have y10 := u_w10.below n_b11.ext n_b11.ge
        have x10 := x8.trans y10
        have oT10 := oT.ext y10
        have kb710 := kb7.ext y10
        have hAP10 := hAP.ext y10
        clear u_w10 n_b11 oT kb7 hAP hAA hcP hcP8 x8 y10
        repeat (first | refine Vx ?_ | (apply Ops_q; (case hon => exact Va); (case hd => rfl); (case hq => exact YlA)) | refine Vr ?_ | refine Vt ?_ | refine Vf ?_ | refine Vm ?_ | refine Ve ?_ | refine Vo ?_ | refine Vz ?_ | refine Vn ?_)
        by_cases h0 : 0 ≤ val
        · have d0 : decide ((0 : Int) ≤ val) = true := decide_eq_true h0
          rw [if_pos h0] at oT10
          have hlen : ((tabE R i ++ (P.take j).map (fun p => (⟨p, val⟩ : En))).map En.cells).length ≤ 4294967296 := by rw [List.length_map, List.length_append, List.length_map, List.length_take]; omega
          refine V_yes rfl d0 ?_
          repeat (first | refine Vx ?_ | (apply Ops_q; (case hon => exact Va); (case hd => rfl); (case hq => exact YlA)) | refine Vr ?_ | refine Vt ?_ | refine Vf ?_ | refine Vm ?_ | refine Ve ?_ | refine Vo ?_ | refine Vz ?_ | refine Vn ?_)
          (refine Ops_lit (by exact Va) rfl rfl rfl ?_; intro w11 bl n_bl; have k_bl := n_bl.blk)
          have o11 := oT10.ext n_bl.ext
          have x11 := x10.trans n_bl.ext
          replace kb710 := kb710.ext n_bl.ext
          replace hAP10 := hAP10.ext n_bl.ext
          repeat (first | refine Vx ?_ | (apply Ops_q; (case hon => exact Va); (case hd => rfl); (case hq => exact YlA)) | refine Vr ?_ | refine Vt ?_ | refine Vf ?_ | refine Vm ?_ | refine Ve ?_ | refine Vo ?_ | refine Vz ?_ | refine Vn ?_)
          (refine Ops_append1 (by exact Va) rfl rfl rfl rfl o11 k_bl.cells inferInstance inferInstance (by first | omega | (rw [List.length_map]; omega)) rfl x11.size ?_; intro u12 w12 o_u12 g_w12 d_u12)
          have x12 := grow_below x11 g_w12 (fun c hc => o11.ge hc)
          have kb12 := grow_blk g_w12 kb710 (fun e => own_blk_ne o11 kb710 rfl e.symm)
          have hAP12 := hAP10.grow g_w12 (own_own_ne hAP10 o11 rfl)
          repeat (first | refine Vx ?_ | (apply Ops_q; (case hon => exact Va); (case hd => rfl); (case hq => exact YlA)) | refine Vr ?_ | refine Vt ?_ | refine Vf ?_ | refine Vm ?_ | refine Ve ?_ | refine Vo ?_ | refine Vz ?_ | refine Vn ?_)
          refine ⟨(j + 1, u12), (by repeat (first | exact trivial | refine ⟨rfl, ?_⟩)), ⟨hjl, x12, ?_, kb12, hAP12⟩, by simp only; omega⟩
          dsimp only
          rw [if_pos h0, hta, List.map_append (f := fun p => (⟨p, val⟩ : En)), ← List.append_assoc, List.map_append (f := En.cells)]; exact o_u12
        · have d0 : decide ((0 : Int) ≤ val) = false := decide_eq_false h0
          refine V_no rfl d0 ?_
          repeat (first | refine Vx ?_ | (apply Ops_q; (case hon => exact Va); (case hd => rfl); (case hq => exact YlA)) | refine Vr ?_ | refine Vt ?_ | refine Vf ?_ | refine Vm ?_ | refine Ve ?_ | refine Vo ?_ | refine Vz ?_ | refine Vn ?_)
          refine ⟨(j + 1, u), (by repeat (first | exact trivial | refine ⟨rfl, ?_⟩)), ⟨hjl, x10, ?_, kb710, hAP10⟩, by simp only; omega⟩
          dsimp only
          rw [if_neg h0] at oT10 ⊢; exact oT10
      · obtain rfl : j = P.length := by have := of_decide_eq_false hgd; omega
        rw [List.take_length] at oT
        repeat (first | refine Vx ?_ | (apply Ops_q; (case hon => exact Va); (case hd => rfl); (case hq => exact YlA)) | refine Vr ?_ | refine Vt ?_ | refine Vf ?_ | refine Vm ?_ | refine Ve ?_ | refine Vo ?_ | refine Vz ?_ | refine Vn ?_)
        refine ⟨(i + 1, u), (by repeat (first | exact trivial | refine ⟨rfl, ?_⟩)), ⟨hil, x8, ?_⟩, by simp only; omega⟩
        dsimp only
        rw [tabE, hrE]; exact oT
    · obtain rfl : i = R.length := by have := of_decide_eq_false hgd; omega
      repeat (first | refine Vx ?_ | (apply Ops_q; (case hon => exact Va); (case hd => rfl); (case hq => exact YlA)) | refine Vr ?_ | refine Vt ?_ | refine Vf ?_ | refine Vm ?_ | refine Ve ?_ | refine Vo ?_ | refine Vz ?_ | refine Vn ?_)
      refine ret2 (by first | exact .inl rfl | exact .inr rfl) rfl rfl rfl ?_
      exact Gives_mk (fun w' he => .inl ⟨R, g, v, hC, hg, hc, rfl, (oT.ext he).mono x3.size⟩) (x3.trans x4)
  · have hd : (!decide ((if N.length = 0 then (3 : Int) else 1) = 0)) = true := by split <;> rfl
    refine V_yes rfl hd ?_
    repeat (first | refine Vx ?_ | (apply Ops_q; (case hon => exact Va); (case hd => rfl); (case hq => exact YlA)) | refine Vr ?_ | refine Vt ?_ | refine Vf ?_ | refine Vm ?_ | refine Ve ?_ | refine Vo ?_ | refine Vz ?_ | refine Vn ?_)
    refine ret2 (by first | exact .inl rfl | exact .inr rfl) rfl rfl rfl ?_
    exact Gives_mk (fun _ _ => .inr ⟨hno, rfl⟩) x2
end Go.Proofs.Ytjpnaofoeeegeaa


/-
  Stride tables (layer 8): the examples that each statement looks at.
  No conditions.
-/
namespace Go.Proofs.Ytjpnaofoeeegeaa
open Go.RowKit

/-! ### Forms of one node -/
def lvU (u : Nat → Int) : Nat → List Int
  | 0 => []
  | x + 1 => if (lvU u x).getLast? = some (u x) then lvU u x else lvU u x ++ [u x]
def stU (u : Nat → Int) (x : Nat) : Bool := !decide ((lvU u x).getLast? = some (u x))
section
variable {f : Nat → Int} {u : Nat → Int}
theorem one_K (h : ∀ a, a < 4294967296 → f a = u (a / 67108864)) {x : Nat} (hx : x < 64) : digK f (0, 0) x = some (some (u x)) := by
  have e2 : nsz (0 + 1) = 67108864 := rfl
  have e1 : digLo 0 0 x = x * 67108864 := by unfold digLo; rw [if_pos (by omega), Nat.zero_add, e2]
  have hf : flat f (digLo 0 0 x) (digLo 0 0 x + nsz (0 + 1)) = true := flat_iff.2 fun a h1 h2 => by
    rw [e1] at h1 h2 ⊢
    rw [e2] at h2
    rw [h a (by omega), h _ (by omega)]
    congr 1; omega
  unfold digK
  dsimp only
  rw [if_pos (show digOk 0 x = true from rfl), if_pos hf, e1, h _ (by omega), Nat.mul_div_cancel _ (by omega)]
theorem one_in {p : Nat × Nat} (hK : ∀ x, x < 64 → digK f p x = some (some (u x))) {x : Nat} (hx : x < 64) : inB f p x = false := by unfold inB; rw [hK x hx]
theorem one_lv {p : Nat × Nat} (hK : ∀ x, x < 64 → digK f p x = some (some (u x))) : ∀ x, x ≤ 64 → lvP f p x = lvU u x
  | 0, _ => rfl
  | x + 1, hx => by rw [lvP, lvU, hK x (by omega), one_lv hK x (by omega)]
theorem one_st {p : Nat × Nat} (hK : ∀ x, x < 64 → digK f p x = some (some (u x))) {x : Nat} (hx : x < 64) : stB f p x = stU u x := by unfold stB stU; rw [hK x hx, one_lv hK x (by omega)]
theorem one_kd {p : Nat × Nat} (hK : ∀ x, x < 64 → digK f p x = some (some (u x))) : ∀ x, x ≤ 64 → kdP f p x = []
  | 0, _ => rfl
  | x + 1, hx => by rw [kdP, one_in hK (show x < 64 by omega), if_neg (by decide), one_kd hK x (by omega)]
theorem mkW_false : ∀ k, mkW (fun _ => false) k = 0
  | 0 => rfl
  | k + 1 => by rw [mkW, if_neg (by decide), mkW_false k]
theorem one_row {p : Nat × Nat} (hp0 : p = (0, 0)) (hK : ∀ x, x < 64 → digK f p x = some (some (u x))) {n : Nat} (hn : n = 64) : rowF f 1 = [p] ∧ ndsF f 1 = [⟨0, mkW (stU u) n, 1, 0⟩] ∧ lvF f 1 = lvU u n := by
  have hp : (rowF f 0)[0]? = some p := by rw [hp0]; rfl
  have hr0 : rowF f 0 = [p] := by rw [hp0]; rfl
  clear hp0
  have h0 : mkW (inB f p) n = 0 := by rw [mkW_congr (Q := fun _ => false) (fun x hx => one_in hK (by omega))]; exact mkW_false n
  have h1 : mkW (stB f p) n = mkW (stU u) n := mkW_congr (fun x hx => one_st hK (by omega))
  have h2 := one_kd hK n (by omega)
  have h3 := one_lv hK n (by omega)
  have e1 := row_step hp
  have e2 := nds_step hp
  have e3 := lv_step hp
  rw [ndF, hr0] at e2
  rw [hr0] at e1
  rw [← hn] at e1 e2 e3
  rw [h2, List.append_nil] at e1
  rw [h0, h1] at e2
  rw [h3] at e3
  clear h0 h1 h2 h3
  generalize mkW (stU u) n = W at *
  generalize lvU u n = V at *
  exact ⟨e1, e2, e3⟩
end
theorem isCf_one {f : Nat → Int} {u : Nat → Int} {n W : Nat} {V : List Int} (h : ∀ a, a < 4294967296 → f a = u (a / 67108864)) (hn : n = 64) (hW : mkW (stU u) n = W) (hV : lvU u n = V) : IsCf f [⟨0, W, 1, 0⟩] V := by
  obtain ⟨h1, h2, h3⟩ := one_row rfl (fun x hx => one_K h hx) hn
  rw [hW] at h2
  rw [hV] at h3
  exact ⟨1, by rw [h1]; rfl, h2.symm, h3.symm⟩
def exT1 : List En := [⟨⟨4227858432, 6⟩, 1⟩]
def exT2 : List En := [⟨⟨0, 0⟩, 7⟩]
def exU1 (x : Nat) : Int := if x = 63 then 1 else -1
theorem ex1_chk : chk exT1 = 0 := by decide +kernel
theorem ex2_chk : chk exT2 = 0 := by decide +kernel
theorem lk_one (e : En) (a : Nat) (hn : (-1 : Int) < e.p.n) : lk [e] a = if e.p.has a = true then e.v else -1 := by
  unfold lk
  rw [List.foldl_cons, List.foldl_nil, lkS, decide_eq_true hn, Bool.true_and]
  split <;> rfl
theorem ex1_lk (a : Nat) (ha : a < 4294967296) : lk exT1 a = exU1 (a / 67108864) := by
  have hv : (⟨4227858432, 6⟩ : Pf).valid = true := by decide +kernel
  have hl : (⟨4227858432, 6⟩ : Pf).last = 4294967295 := by decide +kernel
  rw [exT1, lk_one _ _ (by decide)]
  unfold exU1
  by_cases h : 4227858432 ≤ a
  · rw [if_pos ((has_iff hv).2 ⟨h, by rw [hl]; omega⟩), if_pos (by omega)]
  · rw [if_neg (fun hc => h ((has_iff hv).1 hc).1), if_neg (by omega)]
theorem ex2_lk (a : Nat) (ha : a < 4294967296) : lk exT2 a = (fun _ => 7) (a / 67108864) := by
  have hv : (⟨0, 0⟩ : Pf).valid = true := by decide +kernel
  have hl : (⟨0, 0⟩ : Pf).last = 4294967295 := by decide +kernel
  rw [exT2, lk_one _ _ (by decide), if_pos ((has_iff hv).2 ⟨Nat.zero_le _, by rw [hl]; omega⟩)]
def exN1 : List Nd := [⟨0, 9223372036854775809, 1, 0⟩]
def exN2 : List Nd := [⟨0, 1, 1, 0⟩]
theorem ex1_cf : IsCf (lk exT1) exN1 [-1, 1] := by
  exact isCf_one (u := exU1) ex1_lk rfl (by decide +kernel) (by decide +kernel)
theorem ex2_cf : IsCf (lk exT2) exN2 [7] := by
  exact isCf_one (u := fun _ => 7) ex2_lk rfl (by decide +kernel) (by decide +kernel)
theorem lk_ge {T : List En} (h : chk T = 0) (a : Nat) : -1 ≤ lk T a := by
  have hT := (chk_iff.1 h).2
  unfold lk
  have : ∀ (l : List En) (s : Int × Int), (∀ e ∈ l, -1 ≤ e.v) → -1 ≤ s.1 → -1 ≤ (l.foldl (lkS a) s).1 := by
    intro l
    induction l with
    | nil => intro s _ hs; exact hs
    | cons e l ih =>
      intro s hl hs
      rw [List.foldl_cons]
      refine ih _ (fun x hx => hl x (List.mem_cons_of_mem _ hx)) ?_
      rw [lkS]; split
      · exact hl e (List.mem_cons_self ..)
      · exact hs
  exact this T _ (fun e he => (hT.ok e he).2) (by decide)
theorem geM_lk {T : List En} (h : chk T = 0) : GeM (lk T) := fun a _ => lk_ge h a
/-- A list of one entry, written out. -/
theorem ens_lit {w w1 : World} {b : Nat} {e : TypeId} {x : En} (h : New w w1 b e x.cells) : Ens w1 (some ⟨b, 0, none⟩) [x] := by
  obtain ⟨ao, c, h1, h2⟩ := (own_litN h (n0 := 3) rfl).slice
  cases h1
  exact h2
theorem nds_lit {w w1 : World} {b : Nat} {e : TypeId} {x : Nd} (h : New w w1 b e x.cells) : Nds w1 (some ⟨b, 0, none⟩) [x] := by
  obtain ⟨ao, c, h1, h2⟩ := (own_litN h (n0 := 4) rfl).slice
  cases h1
  exact h2
theorem ins_lit {w w1 : World} {b : Nat} {e : TypeId} {L : List Int} (h : New w w1 b e (L.map fun v => .int .i64 v)) : Ins w1 (some ⟨b, 0, none⟩) L := fun k u hk => by
  rw [List.getElem?_map] at hk
  obtain ⟨v, hv, rfl⟩ := Option.map_eq_some_iff.1 hk
  refine ⟨_, rfl, fun j u hj => ?_⟩
  rcases j with _ | j
  · simp only [ic, List.getElem?_cons_zero, Option.some.injEq] at hj
    subst hj
    rw [add_add, Nat.add_zero, Nat.mul_one]
    exact h.blk.cells k _ (by rw [List.getElem?_map, hv]; rfl)
  · simp [ic] at hj
set_option maxHeartbeats 2000000 in
theorem awake8_v (w : World) : Calls Try.prog 18 #[] w (Ret (.bool true) w) := by
  refine V_enter (vs := []) Try.func18 rfl Try.ntmps18 (Nat.le_of_ble_eq_true rfl) ?_
  repeat (first | refine Vx ?_ | (apply Ops_q; (case hon => exact Va); (case hd => rfl); (case hq => exact YlA)) | refine Vr ?_ | refine Vt ?_ | refine Vf ?_ | refine Vm ?_ | refine Ve ?_ | refine Vo ?_ | refine Vz ?_ | refine Vn ?_)
  (refine Ops_lit (by exact Va) rfl rfl rfl ?_; intro w1 b1 n_b1; have k_b1 := n_b1.blk)
  have hT1 : Ens w1 (some ⟨b1, 0, none⟩) exT1 := ens_lit (x := ⟨⟨4227858432, 6⟩, 1⟩) n_b1
  have x1 := n_b1.ext
  clear n_b1 k_b1
  repeat (first | refine Vx ?_ | (apply Ops_q; (case hon => exact Va); (case hd => rfl); (case hq => exact YlA)) | refine Vr ?_ | refine Vt ?_ | refine Vf ?_ | refine Vm ?_ | refine Ve ?_ | refine Vo ?_ | refine Vz ?_ | refine Vn ?_)
  refine Ops_callR (R := fun _ r w' => BldR exT1 r w') (by exact Va) rfl rfl (fun w_ e_ => build_v (some ⟨b1, 0, none⟩) exT1 1 w_ (hT1.ext e_) (by decide) (by decide)) ?_
  intro v2 w2 w0_ e0 e1 hR
  obtain ⟨aN, aL, N, L, cN, cL, rfl, hB, hN, hL⟩ := hR
  have x2 := x1.trans (e0.trans e1)
  obtain ⟨rfl, rfl⟩ : exN1 = N ∧ [-1, 1] = L := BldOk.unique (.inl ⟨ex1_chk, ex1_cf⟩) hB
  rw [ex1_chk]
  clear hB e0 e1 x1 hT1
  repeat (first | refine Vx ?_ | (apply Ops_q; (case hon => exact Va); (case hd => rfl); (case hq => exact YlA)) | refine Vr ?_ | refine Vt ?_ | refine Vf ?_ | refine Vm ?_ | refine Ve ?_ | refine Vo ?_ | refine Vz ?_ | refine Vn ?_)
  (refine Ops_alloc (by exact Va) rfl ?_; intro w3 b3 n_b3; have k_b3 := n_b3.blk)
  repeat (first | refine Vx ?_ | (apply Ops_q; (case hon => exact Va); (case hd => rfl); (case hq => exact YlA)) | refine Vr ?_ | refine Vt ?_ | refine Vf ?_ | refine Vm ?_ | refine Ve ?_ | refine Vo ?_ | refine Vz ?_ | refine Vn ?_)
  (refine Ops_store (by exact Va) rfl rfl (by assumption) (by first | rfl | exact OneAll.h) ?_; intro w4 u_w4; have k_b3 := u_w4.blk)
  have y4 : Ext w2 w4 := u_w4.below n_b3.ext n_b3.ge
  have x4 := x2.trans y4
  replace hN := hN.ext y4
  replace hL := hL.ext y4
  clear u_w4 n_b3 y4 x2
  repeat (first | refine Vx ?_ | (apply Ops_q; (case hon => exact Va); (case hd => rfl); (case hq => exact YlA)) | refine Vr ?_ | refine Vt ?_ | refine Vf ?_ | refine Vm ?_ | refine Ve ?_ | refine Vo ?_ | refine Vz ?_ | refine Vn ?_)
  (refine Ops_lit (by exact Va) rfl rfl rfl ?_; intro w5 b5 n_b5; have k_b5 := n_b5.blk)
  have hT2 : Ens w5 (some ⟨b5, 0, none⟩) exT2 := ens_lit (x := ⟨⟨0, 0⟩, 7⟩) n_b5
  have y5 := n_b5.ext
  clear n_b5 k_b5
  repeat (first | refine Vx ?_ | (apply Ops_q; (case hon => exact Va); (case hd => rfl); (case hq => exact YlA)) | refine Vr ?_ | refine Vt ?_ | refine Vf ?_ | refine Vm ?_ | refine Ve ?_ | refine Vo ?_ | refine Vz ?_ | refine Vn ?_)
  refine Ops_callR (R := fun _ r w' => BldR exT2 r w') (by exact Va) rfl rfl (fun w_ e_ => build_v (some ⟨b5, 0, none⟩) exT2 1 w_ (hT2.ext e_) (by decide) (by decide)) ?_
  intro v6 w6 w0_ e0 e1 hR
  obtain ⟨aM, aK, M, K, cM, cK, rfl, hB, hM, hK⟩ := hR
  have y6 := y5.trans (e0.trans e1)
  obtain ⟨rfl, rfl⟩ : exN2 = M ∧ [7] = K := BldOk.unique (.inl ⟨ex2_chk, ex2_cf⟩) hB
  rw [ex2_chk]
  replace hN := hN.ext y6
  replace hL := hL.ext y6
  replace k_b3 := k_b3.ext y6
  replace x4 := x4.trans y6
  clear hB e0 e1 y5 y6 hT2
  repeat (first | refine Vx ?_ | (apply Ops_q; (case hon => exact Va); (case hd => rfl); (case hq => exact YlA)) | refine Vr ?_ | refine Vt ?_ | refine Vf ?_ | refine Vm ?_ | refine Ve ?_ | refine Vo ?_ | refine Vz ?_ | refine Vn ?_)
  (refine Ops_alloc (by exact Va) rfl ?_; intro w7 b7 n_b7; have k_b7 := n_b7.blk)
  repeat (first | refine Vx ?_ | (apply Ops_q; (case hon => exact Va); (case hd => rfl); (case hq => exact YlA)) | refine Vr ?_ | refine Vt ?_ | refine Vf ?_ | refine Vm ?_ | refine Ve ?_ | refine Vo ?_ | refine Vz ?_ | refine Vn ?_)
  (refine Ops_store (by exact Va) rfl rfl (by assumption) (by first | rfl | exact OneAll.h) ?_; intro w8 u_w8; have k_b7 := u_w8.blk)
  have y8 : Ext w6 w8 := u_w8.below n_b7.ext n_b7.ge
  replace hN := hN.ext y8
  replace hL := hL.ext y8
  replace hM := hM.ext y8
  replace hK := hK.ext y8
  replace k_b3 := k_b3.ext y8
  replace x4 := x4.trans y8
  clear u_w8 n_b7 y8
  repeat (first | refine Vx ?_ | (apply Ops_q; (case hon => exact Va); (case hd => rfl); (case hq => exact YlA)) | refine Vr ?_ | refine Vt ?_ | refine Vf ?_ | refine Vm ?_ | refine Ve ?_ | refine Vo ?_ | refine Vz ?_ | refine Vn ?_)
  refine Ops_callR (R := fun _ r _ => LkC exN1 [-1, 1] 4278190080 r) (by exact Va) rfl rfl (fun w_ e_ => lookupS_v aN aL exN1 [-1, 1] cN cL 4278190080 w_ (hN.ext e_) (hL.ext e_) ex1_cf.w (by decide) (by decide) (by decide)) ?_
  intro v9 w9 w0_ e0 e1 hR
  have e_w9 := e0.trans e1
  obtain rfl : v9 = .tuple #[.int .i64 1, .int .i64 1] := by
    rcases hR with ⟨g, hg, hc, rfl⟩ | ⟨hno, _⟩
    · have hs : ∀ a, a < 4294967296 → g a = lk exT1 a := fun a ha => isCf_inj hc ex1_cf ha
      have hv : g 4278190080 = 1 := by rw [hs _ (by decide), ex1_lk _ (by decide)]; decide
      have hi := one_in (f := g) (u := exU1) (p := (0, 0)) (fun x hx => one_K (fun a ha => by rw [hs a ha]; exact ex1_lk a ha) hx) (digN_lt 4278190080 0)
      have hd : dep g 4278190080 6 (0, 0) = 1 := by rw [dep]; dsimp only; rw [hi]; rfl
      rw [hv, hd]; rfl
    · exact absurd ex1_cf (hno _ (geM_lk ex1_chk))
  clear hR e0 e1
  replace hN := hN.ext e_w9
  replace hL := hL.ext e_w9
  replace hM := hM.ext e_w9
  replace hK := hK.ext e_w9
  replace k_b3 := k_b3.ext e_w9
  replace k_b7 := k_b7.ext e_w9
  replace x4 := x4.trans e_w9
  clear e_w9
  repeat (first | refine Vx ?_ | (apply Ops_q; (case hon => exact Va); (case hd => rfl); (case hq => exact YlA)) | refine Vr ?_ | refine Vt ?_ | refine Vf ?_ | refine Vm ?_ | refine Ve ?_ | refine Vo ?_ | refine Vz ?_ | refine Vn ?_)
  (refine Ops_lit (by exact Va) rfl rfl rfl ?_; intro wa ba n_ba; have k_ba := n_ba.blk)
  have hP : Nds wa (some ⟨ba, 0, none⟩) exN1 := nds_lit (x := ⟨0, 9223372036854775809, 1, 0⟩) n_ba
  have ea := n_ba.ext
  clear n_ba k_ba
  repeat (first | refine Vx ?_ | (apply Ops_q; (case hon => exact Va); (case hd => rfl); (case hq => exact YlA)) | refine Vr ?_ | refine Vt ?_ | refine Vf ?_ | refine Vm ?_ | refine Ve ?_ | refine Vo ?_ | refine Vz ?_ | refine Vn ?_)
  (refine Ops_lit (by exact Va) rfl rfl rfl ?_; intro wb bb n_bb; have k_bb := n_bb.blk)
  have hQ : Ins wb (some ⟨bb, 0, none⟩) [-1, 1] := ins_lit (L := [-1, 1]) n_bb
  have eb := n_bb.ext
  clear n_bb k_bb
  repeat (first | refine Vx ?_ | (apply Ops_q; (case hon => exact Va); (case hd => rfl); (case hq => exact YlA)) | refine Vr ?_ | refine Vt ?_ | refine Vf ?_ | refine Vm ?_ | refine Ve ?_ | refine Vo ?_ | refine Vz ?_ | refine Vn ?_)
  (refine Ops_alloc (by exact Va) rfl ?_; intro wc bc n_bc; have k_bc := n_bc.blk)
  repeat (first | refine Vx ?_ | (apply Ops_q; (case hon => exact Va); (case hd => rfl); (case hq => exact YlA)) | refine Vr ?_ | refine Vt ?_ | refine Vf ?_ | refine Vm ?_ | refine Ve ?_ | refine Vo ?_ | refine Vz ?_ | refine Vn ?_)
  (refine Ops_store (by exact Va) rfl rfl (by assumption) (by first | rfl | exact OneAll.h) ?_; intro wd u_wd; have k_bc := u_wd.blk)
  have ed : Ext wb wd := u_wd.below n_bc.ext n_bc.ge
  have e2 := ea.trans (eb.trans ed)
  replace hN := hN.ext e2
  replace hL := hL.ext e2
  replace hM := hM.ext e2
  replace hK := hK.ext e2
  replace hP := hP.ext (eb.trans ed)
  replace hQ := hQ.ext ed
  replace k_b3 := k_b3.ext e2
  replace k_b7 := k_b7.ext e2
  replace x4 := x4.trans e2
  clear u_wd n_bc ea eb ed e2
  repeat (first | refine Vx ?_ | (apply Ops_q; (case hon => exact Va); (case hd => rfl); (case hq => exact YlA)) | refine Vr ?_ | refine Vt ?_ | refine Vf ?_ | refine Vm ?_ | refine Ve ?_ | refine Vo ?_ | refine Vz ?_ | refine Vn ?_)
  (apply Ops_q; (case hon => (exact Va)); (case hd => rfl); (case hq => exact Yl_call rfl (fun w_ e_ => sameL_v aN (some ⟨ba, 0, none⟩) aL (some ⟨bb, 0, none⟩) exN1 exN1 [-1, 1] [-1, 1] cN 1 cL 2 w_ (hN.ext e_) (hP.ext e_) (hL.ext e_) (hQ.ext e_) (by decide) (by decide))))
  rw [decide_eq_true (show exN1 = exN1 ∧ ([-1, 1] : List Int) = [-1, 1] from ⟨rfl, rfl⟩)]
  repeat (first | refine Vx ?_ | (apply Ops_q; (case hon => exact Va); (case hd => rfl); (case hq => exact YlA)) | refine Vr ?_ | refine Vt ?_ | refine Vf ?_ | refine Vm ?_ | refine Ve ?_ | refine Vo ?_ | refine Vz ?_ | refine Vn ?_)
  (refine Ops_lit (by exact Va) rfl rfl rfl ?_; intro we be n_be; have k_be := n_be.blk)
  have hP2 : Nds we (some ⟨be, 0, none⟩) exN2 := nds_lit (x := ⟨0, 1, 1, 0⟩) n_be
  have ee := n_be.ext
  clear n_be k_be
  repeat (first | refine Vx ?_ | (apply Ops_q; (case hon => exact Va); (case hd => rfl); (case hq => exact YlA)) | refine Vr ?_ | refine Vt ?_ | refine Vf ?_ | refine Vm ?_ | refine Ve ?_ | refine Vo ?_ | refine Vz ?_ | refine Vn ?_)
  (refine Ops_lit (by exact Va) rfl rfl rfl ?_; intro wf bf n_bf; have k_bf := n_bf.blk)
  have hQ2 : Ins wf (some ⟨bf, 0, none⟩) [7] := ins_lit (L := [7]) n_bf
  have ef := n_bf.ext
  replace hP2 := hP2.ext ef
  have e2 := ee.trans ef
  replace hN := hN.ext e2
  replace hL := hL.ext e2
  replace hM := hM.ext e2
  replace hK := hK.ext e2
  replace k_b3 := k_b3.ext e2
  replace x4 := x4.trans e2
  clear n_bf k_bf ee ef
  repeat (first | refine Vx ?_ | (apply Ops_q; (case hon => exact Va); (case hd => rfl); (case hq => exact YlA)) | refine Vr ?_ | refine Vt ?_ | refine Vf ?_ | refine Vm ?_ | refine Ve ?_ | refine Vo ?_ | refine Vz ?_ | refine Vn ?_)
  (apply Ops_q; (case hon => (exact Va)); (case hd => rfl); (case hq => exact Yl_call rfl (fun w_ e_ => sameL_v aM (some ⟨be, 0, none⟩) aK (some ⟨bf, 0, none⟩) exN2 exN2 [7] [7] cM 1 cK 1 w_ (hM.ext e_) (hP2.ext e_) (hK.ext e_) (hQ2.ext e_) (by decide) (by decide))))
  rw [decide_eq_true (show exN2 = exN2 ∧ ([7] : List Int) = [7] from ⟨rfl, rfl⟩)]
  repeat (first | refine Vx ?_ | (apply Ops_q; (case hon => exact Va); (case hd => rfl); (case hq => exact YlA)) | refine Vr ?_ | refine Vt ?_ | refine Vf ?_ | refine Vm ?_ | refine Ve ?_ | refine Vo ?_ | refine Vz ?_ | refine Vn ?_)
  refine Ops_callR (R := fun _ r _ => ∃ v, r = .int .i64 v ∧ ChkC exN1 [-1, 1] v) (by exact Va) rfl rfl (fun w_ e_ => checkS_v aN aL exN1 [-1, 1] cN cL w_ (hN.ext e_) (hL.ext e_) ex1_cf.w (by decide) (by decide)) ?_
  intro vg wg w0_ e0 e1 hR
  obtain ⟨v, rfl, hv⟩ := hR
  obtain rfl : v = 0 := by
    rcases hv with ⟨h, _⟩ | ⟨_, hno⟩
    · exact h
    · exact absurd ex1_cf (hno _ (geM_lk ex1_chk))
  repeat (first | refine Vx ?_ | (apply Ops_q; (case hon => exact Va); (case hd => rfl); (case hq => exact YlA)) | refine Vr ?_ | refine Vt ?_ | refine Vf ?_ | refine Vm ?_ | refine Ve ?_ | refine Vo ?_ | refine Vz ?_ | refine Vn ?_)
  refine ret1 (by first | exact .inl rfl | exact .inr rfl) rfl rfl ?_
  exact Ret_mk rfl (x4.trans (e0.trans e1))
end Go.Proofs.Ytjpnaofoeeegeaa


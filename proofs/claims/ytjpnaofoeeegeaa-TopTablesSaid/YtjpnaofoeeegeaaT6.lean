/-
  Part 6 of the texts that the proof of this claim leans on: rules of a walk, contracts of functions, plain facts. Each piece says below what it proves.
  No conditions beyond those that each lemma states.
-/
import Derived.Test.YtjpnaofoeeegeaaT5
import Derived.Deep.Slices
import Derived.Deep.Fields
import Derived.ChangeSame
import Derived.OpenShut
import Derived.Lib.SmallJoins
import Derived.ProofKit

/-
  Stride tables (layer 8): the runs of a table; Build.
  Conditions: the table's addresses are below 2^32, its length is one that a machine holds.
-/
namespace Go.Proofs.Ytjpnaofoeeegeaa
open Go.RowKit

/-- Up to where the runs are known when k of the bounds were taken. -/
def endN (D : List Int) (k : Nat) : Nat := match D[k]? with
  | some x => x.toNat
  | none => 4294967296
/-- A sorted list of all bounds, and 2^32 perhaps. -/
structure BndD (L : List En) (D : List Int) : Prop where
  asc : D.Pairwise (· < ·)
  mem : ∀ x, x ∈ D ↔ x = 0 ∨ x ∈ words L
  rng : ∀ x ∈ D, 0 ≤ x ∧ x ≤ 4294967296
theorem asc_at {D : List Int} (h : D.Pairwise (· < ·)) {i j : Nat} {x y : Int} (hi : D[i]? = some x) (hj : D[j]? = some y) (hij : i < j) : x < y := by
  obtain ⟨h1, rfl⟩ := List.getElem?_eq_some_iff.1 hi
  obtain ⟨h2, rfl⟩ := List.getElem?_eq_some_iff.1 hj
  exact List.pairwise_iff_getElem.1 h i j h1 h2 hij
section
variable {L : List En} {D : List Int}
theorem BndD.zero (h : BndD L D) : endN D 0 = 0 := by
  have h0 : (0 : Int) ∈ D := (h.mem 0).2 (.inl rfl)
  obtain ⟨i, hi⟩ := List.getElem?_of_mem h0
  have hl := (List.getElem?_eq_some_iff.1 hi).1
  have hx : D[0]? = some (D[0]'(by omega)) := List.getElem?_eq_getElem (by omega)
  unfold endN
  rw [hx]
  dsimp only
  rcases Nat.eq_zero_or_pos i with e | e
  · subst e; rw [hx] at hi; rw [Option.some.inj hi]; rfl
  · have := asc_at h.asc hx hi e
    have := (h.rng _ (List.mem_of_getElem? hx)).1
    omega
theorem BndD.step (h : BndD L D) {k : Nat} {n : Nat} (hk : D[k]? = some (n : Int)) (hn : n ≠ 4294967296) : n < endN D (k + 1) ∧ endN D (k + 1) ≤ 4294967296 ∧ n < 4294967296 := by
  have h1 := h.rng _ (List.mem_of_getElem? hk)
  unfold endN
  cases hy : D[k + 1]? with
  | none => dsimp only; omega
  | some y =>
    have h2 := asc_at h.asc hk hy (Nat.lt_succ_self k)
    have h3 := h.rng _ (List.mem_of_getElem? hy)
    dsimp only; omega
theorem BndD.flat (h : BndD L D) (hv : ∀ e ∈ L, e.p.valid = true) {k n : Nat} (hk : D[k]? = some (n : Int)) {a : Nat} (h1 : n ≤ a) (h2 : a < endN D (k + 1)) : lk L a = lk L n := by
  refine lk_const hv h1 fun b hb hba => ?_
  obtain ⟨i, hi⟩ := List.getElem?_of_mem ((h.mem b).2 (.inr hb))
  rcases Nat.lt_or_ge k i with h3 | h3
  · exfalso
    unfold endN at h2
    rcases Nat.lt_or_ge (k + 1) i with h4 | h4
    · obtain ⟨y, hy⟩ : ∃ y, D[k + 1]? = some y := ⟨_, List.getElem?_eq_getElem (by have := (List.getElem?_eq_some_iff.1 hi).1; omega)⟩
      have h5 := asc_at h.asc hy hi h4
      have h6 := h.rng _ (List.mem_of_getElem? hy)
      rw [hy] at h2
      dsimp only at h2; omega
    · rw [show k + 1 = i by omega, hi] at h2
      have h6 := h.rng _ (List.mem_of_getElem? hi)
      dsimp only at h2; omega
  · rcases Nat.lt_or_ge i k with h4 | h4
    · exact Int.le_of_lt (asc_at h.asc hi hk h4)
    · rw [show i = k by omega, hk] at hi
      exact Int.le_of_eq (Option.some.inj hi).symm
end
/-- What runs returns. -/
def RunR (L : List En) (w0 : World) (r : Value) (w' : World) : Prop := ∃ R : List Rn, Own w' w0.heap.size 94 2 r (R.map rnC) ∧ Canon (lk L) R 4294967296
set_option maxHeartbeats 2000000 in
theorem runs_v (ao : Option Addr) (L : List En) (c : Nat) (w : World) (hL : Ens w ao L) (hLa : ∀ e ∈ L, e.p.a < 4294967296) (hn : L.length ≤ 1000000) (hT : Tb L) :
    Calls Try.prog 37 #[.slice ao L.length c] w (Gives (RunR L w) w) := by
  have hLv : ∀ e ∈ L, e.p.valid = true := fun e he => (hT.ok e he).1
  refine V_enter (vs := [_]) Try.func37 rfl Try.ntmps37 (Nat.le_of_ble_eq_true rfl) ?_
  repeat (first | refine Vx ?_ | (apply Ops_q; (case hon => exact Va); (case hd => rfl); (case hq => exact YlA)) | refine Vr ?_ | refine Vt ?_ | refine Vf ?_ | refine Vm ?_ | refine Ve ?_ | refine Vo ?_ | refine Vz ?_ | refine Vn ?_)
  (refine Ops_callR (by exact Va) rfl rfl (fun w_ e_ => of_entries_v ao L c w_ (hL.ext e_) hLa hn) ?_; intro vt w1 w0_ e0_ e1_ r_vt; have e_w1 := e0_.trans e1_; have b_vt := e0_.size; clear e0_ e1_)
  unfold OfR at r_vt
  rw [if_pos hT.allOk] at r_vt
  obtain ⟨bt, Nt, rfl, ht⟩ := r_vt
  clear b_vt
  repeat (first | refine Vx ?_ | (apply Ops_q; (case hon => exact Va); (case hd => rfl); (case hq => exact YlA)) | refine Vr ?_ | refine Vt ?_ | refine Vf ?_ | refine Vm ?_ | refine Ve ?_ | refine Vo ?_ | refine Vz ?_ | refine Vn ?_)
  (refine Ops_lit (by exact Va) rfl rfl rfl ?_; intro w2 b2 n_b2; have k_b2 := n_b2.blk)
  have x2 : Ext w1 w2 := n_b2.ext
  have o2 : Own w2 w1.heap.size 53 1 (.slice (some ⟨b2, 0, none⟩) 1 1) (([0] : List Int).map uc) := own_lit1 n_b2
  clear k_b2 n_b2
  repeat (first | refine Vx ?_ | (apply Ops_q; (case hon => exact Va); (case hd => rfl); (case hq => exact YlA)) | refine Vr ?_ | refine Vt ?_ | refine Vf ?_ | refine Vm ?_ | refine Ve ?_ | refine Vo ?_ | refine Vz ?_ | refine Vn ?_)
  refine V_loop (fun s : Nat × Value => [(22, .int .i64 s.1), (21, .int .i64 L.length), (20, .slice ao L.length c), (5, s.2), (3, .pointer (some ⟨bt, 0, none⟩))])
    (fun s w' => s.1 ≤ L.length ∧ Ext w1 w' ∧ Own w' w1.heap.size 53 1 s.2 ((0 :: words (L.take s.1)).map uc)) (fun s => L.length - s.1) (0, .slice (some ⟨b2, 0, none⟩) 1 1) (by repeat (first | exact trivial | refine ⟨rfl, ?_⟩))
    ⟨Nat.zero_le _, x2, o2⟩ ?_
  clear o2
  rintro ⟨j, u⟩ w3 ⟨hj, x3, o3⟩
  dsimp only at hj o3 ⊢
  repeat (first | refine Vx ?_ | (apply Ops_q; (case hon => exact Va); (case hd => rfl); (case hq => exact YlA)) | refine Vr ?_ | refine Vt ?_ | refine Vf ?_ | refine Vm ?_ | refine Ve ?_ | refine Vo ?_ | refine Vz ?_ | refine Vn ?_)
  refine V_cond rfl (fun hg => ?_) (fun hg => ?_)
  · replace hg := of_decide_eq_true hg
    have hjl : j < L.length := by omega
    obtain ⟨x, hx⟩ : ∃ x, L[j]? = some x := ⟨_, List.getElem?_eq_getElem hjl⟩
    obtain ⟨ad2, rfl, hcx⟩ := hL.at hx
    have hxa := hLa x (List.mem_of_getElem? hx)
    have hxl := last_lt' x.p hxa
    have hc1 : Cells w3 (ad2.add (j * 3)) [.int .u32 x.p.a, .int .i64 x.p.n, .int .i64 x.v] := hcx.ext (e_w1.trans x3)
    repeat (first | refine Vx ?_ | (apply Ops_q; (case hon => exact Va); (case hd => rfl); (case hq => exact YlA)) | refine Vr ?_ | refine Vt ?_ | refine Vf ?_ | refine Vm ?_ | refine Ve ?_ | refine Vo ?_ | refine Vz ?_ | refine Vn ?_)
    (apply Ops_q; (case hon => (exact Va)); (case hd => rfl); (case hq => exact Yl_indexS (j := j) rfl rfl (by omega)))
    repeat (first | refine Vx ?_ | (apply Ops_q; (case hon => exact Va); (case hd => rfl); (case hq => exact YlA)) | refine Vr ?_ | refine Vt ?_ | refine Vf ?_ | refine Vm ?_ | refine Ve ?_ | refine Vo ?_ | refine Vz ?_ | refine Vn ?_)
    (refine Ops_alloc (by exact Va) rfl ?_; intro w4 b4 n_b4; have k_b4 := n_b4.blk)
    repeat (first | refine Vx ?_ | (apply Ops_q; (case hon => exact Va); (case hd => rfl); (case hq => exact YlA)) | refine Vr ?_ | refine Vt ?_ | refine Vf ?_ | refine Vm ?_ | refine Ve ?_ | refine Vo ?_ | refine Vz ?_ | refine Vn ?_)
    (refine Ops_store (by exact Va) rfl rfl (by assumption) (by first | rfl | exact OneAll.h) ?_; intro w5 u_w5; have k_b4 := u_w5.blk)
    have x5 := u_w5.below (x3.trans n_b4.ext) (Nat.le_trans x3.size n_b4.ge)
    have hb4 : u.ownBlock ≠ some b4 := fun e => by have := o3.lt e; have := n_b4.ge; omega
    have o5 := (o3.ext n_b4.ext).upd u_w5 hb4
    have hpart : Cells w5 ⟨b4, 0, none⟩ [.int .u32 x.p.a, .int .i64 x.p.n] := k_b4.part 0 2
    clear u_w5 n_b4
    repeat (first | refine Vx ?_ | (apply Ops_q; (case hon => exact Va); (case hd => rfl); (case hq => exact YlA)) | refine Vt ?_ | refine Vf ?_ | refine Vm ?_ | refine Ve ?_ | refine Vo ?_ | refine Vz ?_ | refine Vn ?_)
    refine V_lit 11 10 [.int .u64 (x.p.a : Int), .int .u64 ((x.p.last : Int) + 1)] (by kernel_rfl) rfl (by kernel_rfl) rfl rfl ?_
    repeat (first | refine Vx ?_ | (apply Ops_q; (case hon => exact Va); (case hd => rfl); (case hq => exact YlA)) | refine Vr ?_ | refine Vt ?_ | refine Vf ?_ | refine Vm ?_ | refine Ve ?_ | refine Vo ?_ | refine Vz ?_ | refine Vn ?_)
    (apply Ops_q; (case hon => (exact Va)); (case hd => rfl); (case hq => exact Yl_call rfl (fun w_ e_ => last_v x.p w_ hxa)))
    repeat (first | refine Vx ?_ | (apply Ops_q; (case hon => exact Va); (case hd => rfl); (case hq => exact YlA)) | refine Vr ?_ | refine Vt ?_ | refine Vf ?_ | refine Vm ?_ | refine Ve ?_ | refine Vo ?_ | refine Vz ?_ | refine Vn ?_)
    refine ⟨_, rfl, inferInstance, rfl, ?_⟩
    repeat (first | refine Vx ?_ | (apply Ops_q; (case hon => exact Va); (case hd => rfl); (case hq => exact YlA)) | refine Vr ?_ | refine Vt ?_ | refine Vf ?_ | refine Vm ?_ | refine Ve ?_ | refine Vo ?_ | refine Vz ?_ | refine Vn ?_)
    intro w6 b6 n_b6
    have o6 := o5.ext n_b6.ext
    have x6 := x5.trans n_b6.ext
    have hlen : ((0 :: words (L.take j)).map uc).length ≤ 8000000 := by
      have h1 := words_len (L.take j)
      rw [List.length_take] at h1
      simp only [List.length_map, List.length_cons]; omega
    refine Ops_appendL (M := [uc (x.p.a : Int), uc ((x.p.last : Int) + 1)]) (by exact Va) rfl rfl rfl rfl o6 n_b6.blk.cells rfl (fun z hz => by simp at hz; rcases hz with rfl | rfl <;> rfl) (fun z hz => by simp at hz; rcases hz with rfl | rfl <;> rfl) (by omega) (by omega) x6.size ?_
    intro v' w7 o7 g7 d7
    have x7 : Ext w1 w7 := Mod.ext_of x6 ((Mod.of_ext (S := fun c => u.ownBlock = some c) (Ext.refl w6)).grow g7 (fun b hb => .inl hb)) (fun c hc => o6.ge hc)
    repeat (first | refine Vx ?_ | (apply Ops_q; (case hon => exact Va); (case hd => rfl); (case hq => exact YlA)) | refine Vr ?_ | refine Vt ?_ | refine Vf ?_ | refine Vm ?_ | refine Ve ?_ | refine Vo ?_ | refine Vz ?_ | refine Vn ?_)
    refine ⟨(j + 1, v'), (by repeat (first | exact trivial | refine ⟨rfl, ?_⟩)), ⟨hjl, x7, ?_⟩, by simp only; omega⟩
    dsimp only
    rw [words_snoc hx]
    have := o7
    simp only [List.map_cons, List.map_append, List.cons_append, List.map_nil] at this ⊢
    exact this
  · replace hg := of_decide_eq_false hg
    obtain rfl : j = L.length := by omega
    rw [List.take_length] at o3
    have hWl : (0 :: words L).length ≤ 8000000 := by
      have := words_len L
      rw [List.length_cons]; omega
    obtain ⟨g, cap, rfl, hgb, hglt, _⟩ := o3.addr (by simp)
    have D1 : DatU w3 w1.heap.size g ((0 :: words L).map uc).length cap (0 :: words L) := ⟨o3, (List.length_map ..).symm⟩
    have hnb : ((0 :: words L).map uc).length ≤ 1000000000000 := by rw [List.length_map]; omega
    generalize hnn : ((0 :: words L).map uc).length = n at *
    repeat (first | refine Vx ?_ | (apply Ops_q; (case hon => exact Va); (case hd => rfl); (case hq => exact YlA)) | refine Vr ?_ | refine Vt ?_ | refine Vf ?_ | refine Vm ?_ | refine Ve ?_ | refine Vo ?_ | refine Vz ?_ | refine Vn ?_)
    refine Ops_callM (S := BlkU g) (R := fun _ => DatV w1.heap.size g n cap (fun r L' => r = .tuple #[] ∧ Moved (0 :: words L) L' 0 n ∧ Asc ltU L' 0 n)) (by exact Va) rfl rfl (fun w_ e_ => sortU_v hnb (0 :: words L) w_ (D1.ext e_)) ?_
    intro r w4 w0_ e0 m4 hR
    obtain ⟨M, D2, rfl, hM, hA⟩ := hR
    have x4 : Ext w1 w4 := Mod.ext_of (x3.trans e0) m4 (fun c hc => by rw [hc]; exact hgb)
    clear D1 o3 e0 m4
    repeat (first | refine Vx ?_ | (apply Ops_q; (case hon => exact Va); (case hd => rfl); (case hq => exact YlA)) | refine Vr ?_ | refine Vt ?_ | refine Vf ?_ | refine Vm ?_ | refine Ve ?_ | refine Vo ?_ | refine Vz ?_ | refine Vn ?_)
    refine Ops_callM (S := BlkU g) (R := fun _ => CmpR g n cap M) (by exact Va) rfl rfl (fun w_ e_ => compactU_v hnb M w_ (D2.ext e_) hA) ?_
    intro r w5 w0_ e0 m5 hR
    obtain ⟨D, rfl, hDn, hRd, hS⟩ := hR
    have x5 : Ext w1 w5 := Mod.ext_of (x4.trans e0) m5 (fun c hc => by rw [hc]; exact hgb)
    have hBD : BndD L D := ⟨hS.lt, fun x => by
      rw [hS.mem, List.take_of_length_le (by rw [D2.len]; exact Nat.le_refl _), hM.perm.mem_iff, List.mem_cons], fun x hx => by
      rw [hS.mem, List.take_of_length_le (by rw [D2.len]; exact Nat.le_refl _), hM.perm.mem_iff, List.mem_cons] at hx
      rcases hx with rfl | hx
      · omega
      · exact words_range hLa hx⟩
    have hDl : D.length ≤ 8000000 := by rw [List.length_map] at hnn; omega
    clear D2 e0 m5 hM hA hS x4
    repeat (first | refine Vx ?_ | (apply Ops_q; (case hon => exact Va); (case hd => rfl); (case hq => exact YlA)) | refine Vr ?_ | refine Vt ?_ | refine Vf ?_ | refine Vm ?_ | refine Ve ?_ | refine Vo ?_ | refine Vz ?_ | refine Vn ?_)
    refine V_loop (fun s : Nat × Value × List Rn => [(44, .int .i64 s.1), (43, .int .i64 D.length), (42, .slice (some ⟨g, 0, none⟩) D.length cap), (8, s.2.1), (3, .pointer (some ⟨bt, 0, none⟩))])
      (fun s w' => s.1 ≤ D.length ∧ Ext w5 w' ∧ Own w' w5.heap.size 94 2 s.2.1 (s.2.2.map rnC) ∧ Canon (lk L) s.2.2 (endN D s.1)) (fun s => D.length - s.1) (0, .slice none 0 0, []) (by repeat (first | exact trivial | refine ⟨rfl, ?_⟩))
      ⟨Nat.zero_le _, Ext.refl _, Own.nil, by dsimp only; rw [hBD.zero]; exact Canon.zero _⟩ ?_
    rintro ⟨k, v, R⟩ w6 ⟨hk, x6, o6, hC⟩
    dsimp only at hk o6 hC ⊢
    have hfin : endN D k = 4294967296 → ∀ w', Ext w6 w' → RunR L w v w' := fun e w' he => ⟨R, (o6.ext he).mono (Nat.le_trans e_w1.size x5.size), by rw [← e]; exact hC⟩
    repeat (first | refine Vx ?_ | (apply Ops_q; (case hon => exact Va); (case hd => rfl); (case hq => exact YlA)) | refine Vr ?_ | refine Vt ?_ | refine Vf ?_ | refine Vm ?_ | refine Ve ?_ | refine Vo ?_ | refine Vz ?_ | refine Vn ?_)
    refine V_cond rfl (fun hg2 => ?_) (fun hg2 => ?_)
    · replace hg2 := of_decide_eq_true hg2
      have hkl : k < D.length := by omega
      obtain ⟨ni, hni⟩ : ∃ ni, D[k]? = some ni := ⟨_, List.getElem?_eq_getElem hkl⟩
      have hrg := hBD.rng ni (List.mem_of_getElem? hni)
      obtain ⟨n0, rfl⟩ : ∃ n0 : Nat, ni = n0 := ⟨ni.toNat, by omega⟩
      have hn32 : n0 ≤ 4294967296 := by omega
      have hcn := (hRd.ext x6) k _ hni
      clear hrg
      repeat (first | refine Vx ?_ | (apply Ops_q; (case hon => exact Va); (case hd => rfl); (case hq => exact YlA)) | refine Vr ?_ | refine Vt ?_ | refine Vf ?_ | refine Vm ?_ | refine Ve ?_ | refine Vo ?_ | refine Vz ?_ | refine Vn ?_)
      (apply Ops_q; (case hon => (exact Va)); (case hd => rfl); (case hq => exact Yl_indexS (j := k) rfl rfl (by omega)))
      repeat (first | refine Vx ?_ | (apply Ops_q; (case hon => exact Va); (case hd => rfl); (case hq => exact YlA)) | refine Vr ?_ | refine Vt ?_ | refine Vf ?_ | refine Vm ?_ | refine Ve ?_ | refine Vo ?_ | refine Vz ?_ | refine Vn ?_)
      refine V_cond rfl (fun hbr => ?_) (fun hbr => ?_)
      · have e : endN D k = 4294967296 := by have := of_decide_eq_true hbr; unfold endN; rw [hni]; dsimp only; omega
        clear hbr
        repeat (first | refine Vx ?_ | (apply Ops_q; (case hon => exact Va); (case hd => rfl); (case hq => exact YlA)) | refine Vr ?_ | refine Vt ?_ | refine Vf ?_ | refine Vm ?_ | refine Ve ?_ | refine Vo ?_ | refine Vz ?_ | refine Vn ?_)
        refine ret1 (by first | exact .inl rfl | exact .inr rfl) rfl rfl ?_
        exact Gives_mk (hfin e) (e_w1.trans (x5.trans x6))
      · have hne : n0 ≠ 4294967296 := by have := of_decide_eq_false hbr; omega
        clear hbr
        have hst := hBD.step hni hne
        have hlkE : lookO (ofS L).1 n0 = lk L n0 := lookO_eq n0 hT
        have hlow : n0 < 4294967296 := hst.2.2
        have ht6 := ht.ext (x5.trans x6)
        have hRl := hC.len
        have hCk : endN D k = n0 := by unfold endN; rw [hni]; rfl
        rw [hCk] at hC hRl
        have hRl2 : R.length ≤ 4294967296 := by omega
        have hext := hC.ext (g' := lk L) (v := lk L n0) hst.1 (fun _ _ => rfl) (fun a h1 h2 => hBD.flat hLv hni h1 h2)
        repeat (first | refine Vx ?_ | (apply Ops_q; (case hon => exact Va); (case hd => rfl); (case hq => exact YlA)) | refine Vr ?_ | refine Vt ?_ | refine Vf ?_ | refine Vm ?_ | refine Ve ?_ | refine Vo ?_ | refine Vz ?_ | refine Vn ?_)
        (apply Ops_q; (case hon => (exact Va)); (case hd => rfl); (case hq => exact Yl_call rfl (fun w_ e_ => lookup_v n0 w_ (ht6.ext e_) hlow)))
        repeat (first | refine Vx ?_ | (apply Ops_q; (case hon => exact Va); (case hd => rfl); (case hq => exact YlA)) | refine Vr ?_ | refine Vt ?_ | refine Vf ?_ | refine Vm ?_ | refine Ve ?_ | refine Vo ?_ | refine Vz ?_ | refine Vn ?_)
        (refine Ops_alloc (by exact Va) rfl ?_; intro w7 b7 n_b7; have k_b7 := n_b7.blk)
        repeat (first | refine Vx ?_ | (apply Ops_q; (case hon => exact Va); (case hd => rfl); (case hq => exact YlA)) | refine Vr ?_ | refine Vt ?_ | refine Vf ?_ | refine Vm ?_ | refine Ve ?_ | refine Vo ?_ | refine Vz ?_ | refine Vn ?_)
        (refine Ops_store (by exact Va) rfl rfl (by assumption) (by first | rfl | exact OneAll.h) ?_; intro w8 u_w8; have k_b7 := u_w8.blk)
        have x8 : Ext w6 w8 := u_w8.below n_b7.ext n_b7.ge
        have o8 : Own w8 w5.heap.size 94 2 v (R.map rnC) := o6.ext x8
        clear u_w8 n_b7
        repeat (first | refine Vx ?_ | (apply Ops_q; (case hon => exact Va); (case hd => rfl); (case hq => exact YlA)) | refine Vr ?_ | refine Vt ?_ | refine Vf ?_ | refine Vm ?_ | refine Ve ?_ | refine Vo ?_ | refine Vz ?_ | refine Vn ?_)
        refine V_meet1 (fun _ : Unit => [(11, .int .i64 (lk L n0)), (10, .int .u64 n0), (44, .int .i64 k), (43, .int .i64 D.length), (42, .slice (some ⟨g, 0, none⟩) D.length cap), (8, v), (3, .pointer (some ⟨bt, 0, none⟩))])
          (fun _ w' => w' = w8) ?_ ?_
        · unfold lookO at hlkE
          cases ho : lookE (ofS L).1 n0 with
          | none =>
            rw [ho] at hlkE
            repeat (first | refine Vx ?_ | (apply Ops_q; (case hon => exact Va); (case hd => rfl); (case hq => exact YlA)) | refine Vr ?_ | refine Vt ?_ | refine Vf ?_ | refine Vm ?_ | refine Ve ?_ | refine Vo ?_ | refine Vz ?_ | refine Vn ?_)
            rw [← hlkE]
            exact ⟨(), (by repeat (first | exact trivial | refine ⟨rfl, ?_⟩)), rfl⟩
          | some e =>
            rw [ho] at hlkE k_b7
            repeat (first | refine Vx ?_ | (apply Ops_q; (case hon => exact Va); (case hd => rfl); (case hq => exact YlA)) | refine Vr ?_ | refine Vt ?_ | refine Vf ?_ | refine Vm ?_ | refine Ve ?_ | refine Vo ?_ | refine Vz ?_ | refine Vn ?_)
            rw [← hlkE]
            exact ⟨(), (by repeat (first | exact trivial | refine ⟨rfl, ?_⟩)), rfl⟩
        · rintro _ w9 rfl
          repeat (first | refine Vx ?_ | (apply Ops_q; (case hon => exact Va); (case hd => rfl); (case hq => exact YlA)) | refine Vr ?_ | refine Vt ?_ | refine Vf ?_ | refine Vm ?_ | refine Ve ?_ | refine Vo ?_ | refine Vz ?_ | refine Vn ?_)
          refine Ops_callM (S := fun c => v.ownBlock = some c) (R := fun w0 => ExtR w5.heap.size (extR R n0 (lk L n0)) v w0) (by exact Va) rfl rfl (fun w_ e_ => extend_v R n0 (lk L n0) w_ (o8.ext e_) (Nat.le_trans (x6.trans x8).size e_.size) hRl2) ?_
          intro v2 w10 w0_ e0 m10 hR2
          obtain ⟨o10, _⟩ := hR2
          have x10 : Ext w5 w10 := Mod.ext_of ((x6.trans x8).trans e0) m10 (fun c hc => o6.ge hc)
          repeat (first | refine Vx ?_ | (apply Ops_q; (case hon => exact Va); (case hd => rfl); (case hq => exact YlA)) | refine Vr ?_ | refine Vt ?_ | refine Vf ?_ | refine Vm ?_ | refine Ve ?_ | refine Vo ?_ | refine Vz ?_ | refine Vn ?_)
          exact ⟨(k + 1, v2, extR R n0 (lk L n0)), (by repeat (first | exact trivial | refine ⟨rfl, ?_⟩)), ⟨hkl, x10, o10, hext⟩, by simp only; omega⟩
    · replace hg2 := of_decide_eq_false hg2
      have e : endN D k = 4294967296 := by unfold endN; rw [List.getElem?_eq_none (by omega)]
      repeat (first | refine Vx ?_ | (apply Ops_q; (case hon => exact Va); (case hd => rfl); (case hq => exact YlA)) | refine Vr ?_ | refine Vt ?_ | refine Vf ?_ | refine Vm ?_ | refine Ve ?_ | refine Vo ?_ | refine Vz ?_ | refine Vn ?_)
      refine ret1 (by first | exact .inl rfl | exact .inr rfl) rfl rfl ?_
      exact Gives_mk (hfin e) (e_w1.trans (x5.trans x6))
end Go.Proofs.Ytjpnaofoeeegeaa


/-
  Stride tables (layer 8): Build; the reference's block, uniform and Build.
  Conditions: the table's addresses are below 2^32, its length is one that a machine holds.
-/
namespace Go.Proofs.Ytjpnaofoeeegeaa
open Go.RowKit

theorem IsCf.w {g : Nat → Int} {N : List Nd} {L : List Int} (h : IsCf g N L) : NdW N := fun x hx => by
  obtain ⟨c, h2, _⟩ := isCf_len h
  obtain ⟨i, hi⟩ := List.getElem?_of_mem hx
  have hl := (List.getElem?_eq_some_iff.1 hi).1
  obtain ⟨p, hp⟩ := c.place hl
  have := c.node hp hl
  rw [← h2, hi] at this
  cases this
  exact ⟨mkW_lt _ 64, mkW_lt _ 64⟩
theorem IsCf.size {g : Nat → Int} {N : List Nd} {L : List Int} (h : IsCf g N L) : N.length ≤ 75418890625 ∧ L.length ≤ 4826809000000 := by
  obtain ⟨c, h2, h3⟩ := isCf_len h
  have h4 := row_len_le (Nat.le_of_eq c.eq)
  rw [← c.eq, plW_zero] at h4
  have h5 := lv_le g N.length
  rw [← h3] at h5
  omega
/-- What Build's result is. -/
def BldOk (T : List En) (N : List Nd) (L : List Int) : Prop := (chk T = 0 ∧ IsCf (lk T) N L) ∨ (chk T ≠ 0 ∧ N = [] ∧ L = [])
theorem BldOk.size {T : List En} {N : List Nd} {L : List Int} (h : BldOk T N L) : N.length ≤ 75418890625 ∧ L.length ≤ 4826809000000 := by
  rcases h with ⟨_, h2⟩ | ⟨_, h2, h3⟩
  · exact h2.size
  · rw [h2, h3]; exact ⟨by simp, by simp⟩
def BldR (T : List En) (r : Value) (w' : World) : Prop :=
  ∃ (aN aL : Option Addr) (N : List Nd) (L : List Int) (cN cL : Nat), r = .tuple #[.agg #[.slice aN N.length cN, .slice aL L.length cL], .int .i64 (chk T)] ∧ BldOk T N L ∧ Nds w' aN N ∧ Ins w' aL L
theorem build_v (ao : Option Addr) (T : List En) (c : Nat) (w : World) (hT : Ens w ao T) (ha : ∀ e ∈ T, e.p.a < 4294967296) (hn : T.length ≤ 1000000) :
    Calls Try.prog 12 #[.slice ao T.length c] w (Gives (BldR T) w) := by
  refine V_enter (vs := [_]) Try.func12 rfl Try.ntmps12 (Nat.le_of_ble_eq_true rfl) ?_
  repeat (first | refine Vx ?_ | (apply Ops_q; (case hon => exact Va); (case hd => rfl); (case hq => exact YlA)) | refine Vr ?_ | refine Vt ?_ | refine Vf ?_ | refine Vm ?_ | refine Ve ?_ | refine Vo ?_ | refine Vz ?_ | refine Vn ?_)
  (refine Ops_alloc (by exact Va) rfl ?_; intro w1 b2 n_b2; have k_b2 := n_b2.blk)
  have x1 := n_b2.ext
  have g2 := n_b2.ge
  clear n_b2
  repeat (first | refine Vx ?_ | (apply Ops_q; (case hon => exact Va); (case hd => rfl); (case hq => exact YlA)) | refine Vr ?_ | refine Vt ?_ | refine Vf ?_ | refine Vm ?_ | refine Ve ?_ | refine Vo ?_ | refine Vz ?_ | refine Vn ?_)
  (apply Ops_q; (case hon => (exact Va)); (case hd => rfl); (case hq => exact Yl_call rfl (fun w_ e_ => check_v ao T c w_ (hT.ext (x1.trans e_)) ha hn)))
  repeat (first | refine Vx ?_ | (apply Ops_q; (case hon => exact Va); (case hd => rfl); (case hq => exact YlA)) | refine Vr ?_ | refine Vt ?_ | refine Vf ?_ | refine Vm ?_ | refine Ve ?_ | refine Vo ?_ | refine Vz ?_ | refine Vn ?_)
  by_cases h0 : chk T = 0
  · have d0 : (!decide (chk T = 0)) = false := by rw [decide_eq_true h0]; rfl
    refine V_no rfl d0 ?_
    have hTb := (chk_iff.1 h0).2
    repeat (first | refine Vx ?_ | (apply Ops_q; (case hon => exact Va); (case hd => rfl); (case hq => exact YlA)) | refine Vr ?_ | refine Vt ?_ | refine Vf ?_ | refine Vm ?_ | refine Ve ?_ | refine Vo ?_ | refine Vz ?_ | refine Vn ?_)
    (refine Ops_callR (by exact Va) rfl rfl (fun w_ e_ => runs_v ao T c w_ (hT.ext (x1.trans e_)) ha hn hTb) ?_; intro vr w2 w0_ e0_ e1_ r_vr; have e_w2 := e0_.trans e1_; have b_vr := e0_.size; clear e0_ e1_)
    obtain ⟨R, oR, hC⟩ := r_vr
    obtain ⟨aR, cR, rfl, hAR⟩ := ownS oR
    have hAR' : Rns w2 aR R := hAR
    have x2 := x1.trans e_w2
    replace k_b2 := k_b2.ext e_w2
    repeat (first | refine Vx ?_ | (apply Ops_q; (case hon => exact Va); (case hd => rfl); (case hq => exact YlA)) | refine Vr ?_ | refine Vt ?_ | refine Vf ?_ | refine Vm ?_ | refine Ve ?_ | refine Vo ?_ | refine Vz ?_ | refine Vn ?_)
    (refine Ops_callR (by exact Va) rfl rfl (fun w_ e_ => compress_v (lk T) aR R cR w_ (hAR'.ext e_) hC) ?_; intro vc w3 w0_ e0_ e1_ r_vc; have e_w3 := e0_.trans e1_; have b_vc := e0_.size; clear e0_ e1_)
    obtain ⟨vN, vL, N, L, rfl, hcf, oN, oL⟩ := r_vc
    obtain ⟨aN, cN, rfl, hAN⟩ := ownS oN
    obtain ⟨aL, cL, rfl, hAL⟩ := ownS oL
    have x3 := x2.trans e_w3
    replace k_b2 := k_b2.ext e_w3
    have hN2 := own_blk_ne oN k_b2 rfl
    have hL2 := own_blk_ne oL k_b2 rfl
    repeat (first | refine Vx ?_ | (apply Ops_q; (case hon => exact Va); (case hd => rfl); (case hq => exact YlA)) | refine Vr ?_ | refine Vt ?_ | refine Vf ?_ | refine Vm ?_ | refine Ve ?_ | refine Vo ?_ | refine Vz ?_ | refine Vn ?_)
    (refine Ops_store (by exact Va) rfl rfl (by assumption) (by first | rfl | exact OneAll.h) ?_; intro w4 u_w4; have k_b2 := u_w4.blk)
    have x4 := u_w4.below x3 g2
    have oN4 := oN.upd u_w4 hN2
    have oL4 := oL.upd u_w4 hL2
    repeat (first | refine Vx ?_ | (apply Ops_q; (case hon => exact Va); (case hd => rfl); (case hq => exact YlA)) | refine Vr ?_ | refine Vt ?_ | refine Vf ?_ | refine Vm ?_ | refine Ve ?_ | refine Vo ?_ | refine Vz ?_ | refine Vn ?_)
    refine retR2 (.inl rfl) rfl (res_agg rfl k_b2.cells) rfl ?_
    refine Gives_mk (fun w' he => ?_) x4
    have hAN5 : Nds w4 aN N := by obtain ⟨a', c', e1, h1⟩ := ownS oN4; cases e1; exact h1
    have hAL5 : Ins w4 aL L := by obtain ⟨a', c', e1, h1⟩ := ownS oL4; cases e1; exact h1
    exact ⟨aN, aL, N, L, cN, cL, by rw [h0], .inl ⟨h0, hcf⟩, hAN5.ext he, hAL5.ext he⟩
  · have d0 : (!decide (chk T = 0)) = true := by rw [decide_eq_false h0]; rfl
    refine V_yes rfl d0 ?_
    repeat (first | refine Vx ?_ | (apply Ops_q; (case hon => exact Va); (case hd => rfl); (case hq => exact YlA)) | refine Vr ?_ | refine Vt ?_ | refine Vf ?_ | refine Vm ?_ | refine Ve ?_ | refine Vo ?_ | refine Vz ?_ | refine Vn ?_)
    (refine Ops_store (by exact Va) rfl rfl (by assumption) (by first | rfl | exact OneAll.h) ?_; intro w2 u_w2; have k_b2 := u_w2.blk)
    have x2 := u_w2.below x1 g2
    repeat (first | refine Vx ?_ | (apply Ops_q; (case hon => exact Va); (case hd => rfl); (case hq => exact YlA)) | refine Vr ?_ | refine Vt ?_ | refine Vf ?_ | refine Vm ?_ | refine Ve ?_ | refine Vo ?_ | refine Vz ?_ | refine Vn ?_)
    refine retR2 (.inl rfl) rfl (res_agg rfl k_b2.cells) rfl ?_
    exact Gives_mk (fun w' he => ⟨none, none, [], [], 0, 0, rfl, .inr ⟨h0, rfl, rfl⟩, Arr.nil, Arr.nil⟩) x2
/-! ### The reference -/
end Go.Proofs.Ytjpnaofoeeegeaa


/-
  Stride tables (layer 8): the examples that each statement looks at.
  No conditions.
-/
namespace Go.Proofs.Ytjpnaofoeeegeaa
open Go.RowKit

/-! ### Forms of one node -/
theorem lk_ge {T : List En} (h : chk T = 0) (a : Nat) : -1 ≤ lk T a := by
  have hT := (chk_iff.1 h).2
  unfold lk
  have : ∀ (l : List En) (s : Int × Int), (∀ e ∈ l, -1 ≤ e.v) → -1 ≤ s.1 → -1 ≤ (l.foldl (lkS a) s).1 := by
    intro l
    induction l with
    | nil => intro s _ hs; exact hs
    | cons e l ih =>
      intro s hl hs
      rw [List.foldl_cons]
      refine ih _ (fun x hx => hl x (List.mem_cons_of_mem _ hx)) ?_
      rw [lkS]; split
      · exact hl e (List.mem_cons_self ..)
      · exact hs
  exact this T _ (fun e he => (hT.ok e he).2) (by decide)
theorem geM_lk {T : List En} (h : chk T = 0) : GeM (lk T) := fun a _ => lk_ge h a
end Go.Proofs.Ytjpnaofoeeegeaa


/-
  The statement TopTables, walked: plain, aggregated, trimmed and compressed tables and a trie return the same value for every address.
  Conditions: the argument is read as a slice of entries.
-/
namespace Go.Proofs.Ytjpnaofoeeegeaa
open Go.RowKit

theorem m1 : lkT mH 167772160 = 2 := by kernel_rfl
theorem m2 : lkT mH 5 = 1 := by kernel_rfl
set_option maxHeartbeats 1000000 in
theorem lives4_v (w : World) : Calls Try.prog 9 #[] w (Ret (.bool true) w) := by
  have aH : ∀ e ∈ lH, e.p.a < 4294967296 := by decide
  have aM : ∀ e ∈ mH, e.p.a < 4294967296 := by decide
  refine V_enter (vs := []) Try.func9 rfl Try.ntmps9 (Nat.le_of_ble_eq_true rfl) ?_
  repeat (first | refine Vx ?_ | (apply Ops_q; (case hon => exact Va); (case hd => rfl); (case hq => exact YlA)) | refine Vr ?_ | refine Vt ?_ | refine Vf ?_ | refine Vm ?_ | refine Ve ?_ | refine Vo ?_ | refine Vz ?_ | refine Vn ?_)
  (refine Ops_lit (by exact Va) rfl rfl rfl ?_; intro w1 b1 n_b1; have k_b1 := n_b1.blk)
  have hT : Sl w1 (some ⟨b1, 0, none⟩) lH.length 3 lH := ⟨rfl, .of_blk' k_b1 rfl, Nat.le_refl _, fun h => nomatch h⟩
  have x1 := n_b1.ext
  clear n_b1 k_b1
  repeat (first | refine Vx ?_ | (apply Ops_q; (case hon => exact Va); (case hd => rfl); (case hq => exact YlA)) | refine Vr ?_ | refine Vt ?_ | refine Vf ?_ | refine Vm ?_ | refine Ve ?_ | refine Vo ?_ | refine Vz ?_ | refine Vn ?_)
  (refine Ops_callR (by exact Va) rfl rfl (fun w_ e_ => minimal_v (some ⟨b1, 0, none⟩) lH 3 w_ (hT.ext e_) aH (by decide)) ?_; intro v w2 w0_ e0_ e1_ r_v; have e_w2 := e0_.trans e1_; have b_v := e0_.size; clear e0_ e1_)
  obtain ⟨v, rfl, hO⟩ := r_v
  rw [kH] at hO
  obtain ⟨am, cm, rfl, hM⟩ := own_sl hO
  rw [cH]
  have x2 := x1.trans e_w2
  clear b_v e_w2 hO hT
  have h1 := fun w_ (e_ : Ext w2 w_) => lookupA_v am mH cm 167772160 w_ (hM.ens.ext e_) aM (by decide) (by decide)
  rw [m1] at h1
  have h2 := fun w_ (e_ : Ext w2 w_) => lookupA_v am mH cm 5 w_ (hM.ens.ext e_) aM (by decide) (by decide)
  rw [m2] at h2
  repeat (first | refine Vx ?_ | (apply Ops_q; (case hon => exact Va); (case hd => rfl); (case hq => exact YlA)) | refine Vr ?_ | refine Vt ?_ | refine Vf ?_ | refine Vm ?_ | refine Ve ?_ | refine Vo ?_ | refine Vz ?_ | refine Vn ?_)
  (apply Ops_q; (case hon => (exact Va)); (case hd => rfl); (case hq => exact Yl_call rfl (fun w_ e_ => h1 w_ e_)))
  repeat (first | refine Vx ?_ | (apply Ops_q; (case hon => exact Va); (case hd => rfl); (case hq => exact YlA)) | refine Vr ?_ | refine Vt ?_ | refine Vf ?_ | refine Vm ?_ | refine Ve ?_ | refine Vo ?_ | refine Vz ?_ | refine Vn ?_)
  (apply Ops_q; (case hon => (exact Va)); (case hd => rfl); (case hq => exact Yl_call rfl (fun w_ e_ => h2 w_ e_)))
  repeat (first | refine Vx ?_ | (apply Ops_q; (case hon => exact Va); (case hd => rfl); (case hq => exact YlA)) | refine Vr ?_ | refine Vt ?_ | refine Vf ?_ | refine Vm ?_ | refine Ve ?_ | refine Vo ?_ | refine Vz ?_ | refine Vn ?_)
  refine ret1 (by first | exact .inl rfl | exact .inr rfl) rfl rfl ?_
  exact Ret_mk rfl x2
/-- The minimal and the trimmed table. -/
theorem tabs_of {L : List En} (h0 : chk L = 0) (hLa : ∀ e ∈ L, e.p.a < 4294967296) :
    (∀ e ∈ minT L, e.p.a < 4294967296) ∧ (∀ e ∈ trmT L, e.p.a < 4294967296) ∧ (minT L).length ≤ (trmT L).length ∧ (trmT L).length ≤ L.length ∧ ∀ a, a < 4294967296 → lkT (minT L) a = lk L a ∧ lkT (trmT L) a = lk L a := by
  obtain ⟨hl, hT⟩ := chk_iff.1 h0
  have em : minT L = minL L := by rw [minT, if_pos h0]
  have et : trmT L = trimP L := by rw [trmT, if_pos h0, trimL_eq hT]
  obtain ⟨m1, m2, m3⟩ := min_tb hT hLa
  have t1 := trim_tb hT
  have t2 : ∀ e ∈ trimP L, e.p.a < 4294967296 := fun e he => hLa e (trim_sub he)
  have t3 : (trimP L).length ≤ L.length := by
    rw [← et]
    unfold trmT
    rw [if_pos h0]
    have h1 := rangeF_len (visL L) (fun i => decide (((visL L).getD i En.zero).v ≠ upV (visL L) i)) (visL L).length
    have h2 := visL_len L
    exact Nat.le_trans h1 (by omega)
  have c1 : chk (minL L) = 0 := chk_iff.2 ⟨by omega, m1⟩
  have c2 : chk (trimP L) = 0 := chk_iff.2 ⟨by omega, t1⟩
  rw [em, et]
  refine ⟨m2, t2, min_le hT hLa t1 t2 (fun a ha => trim_lk hT a), t3, fun a ha => ⟨?_, ?_⟩⟩
  · rw [lkT, if_pos c1, min_lk hT hLa ha]
  · rw [lkT, if_pos c2, trim_lk hT a]
set_option maxHeartbeats 4000000 in
theorem lawTables_v (ao : Option Addr) (L : List En) (c a : Nat) (w : World) (hS : Sl w ao L.length c L) (hLa : ∀ e ∈ L, e.p.a < 4294967296) (haa : a < 4294967296) : Calls Try.prog 3 #[.slice ao L.length c, .int .u32 a] w (Ret (.bool true) w) := by
  refine V_enter (vs := [_, _]) Try.func3 rfl Try.ntmps3 (Nat.le_of_ble_eq_true rfl) ?_
  repeat (first | refine Vx ?_ | (apply Ops_q; (case hon => exact Va); (case hd => rfl); (case hq => exact YlA)) | refine Vr ?_ | refine Vt ?_ | refine Vf ?_ | refine Vm ?_ | refine Ve ?_ | refine Vo ?_ | refine Vz ?_ | refine Vn ?_)
  by_cases t1 : 60 < L.length
  · have d1 : decide ((60 : Int) < (L.length : Int)) = true := decide_eq_true (by omega)
    refine V_yes rfl d1 ?_
    repeat (first | refine Vx ?_ | (apply Ops_q; (case hon => exact Va); (case hd => rfl); (case hq => exact YlA)) | refine Vr ?_ | refine Vt ?_ | refine Vf ?_ | refine Vm ?_ | refine Ve ?_ | refine Vo ?_ | refine Vz ?_ | refine Vn ?_)
    (apply Ops_q; (case hon => (exact Va)); (case hd => rfl); (case hq => exact Yl_call rfl (fun w_ e_ => lives4_v w_)))
    repeat (first | refine Vx ?_ | (apply Ops_q; (case hon => exact Va); (case hd => rfl); (case hq => exact YlA)) | refine Vr ?_ | refine Vt ?_ | refine Vf ?_ | refine Vm ?_ | refine Ve ?_ | refine Vo ?_ | refine Vz ?_ | refine Vn ?_)
    refine ret1 (by first | exact .inl rfl | exact .inr rfl) rfl rfl ?_
    exact Ret_mk rfl (Ext.refl _)
  have d1 : decide ((60 : Int) < (L.length : Int)) = false := decide_eq_false (by omega)
  have hn : L.length ≤ 1000000 := by omega
  refine V_no rfl d1 ?_
  clear t1 d1
  repeat (first | refine Vx ?_ | (apply Ops_q; (case hon => exact Va); (case hd => rfl); (case hq => exact YlA)) | refine Vr ?_ | refine Vt ?_ | refine Vf ?_ | refine Vm ?_ | refine Ve ?_ | refine Vo ?_ | refine Vz ?_ | refine Vn ?_)
  (refine Ops_callR (by exact Va) rfl rfl (fun w_ e_ => minimal_v ao L c w_ (hS.ext e_) hLa hn) ?_; intro v1 w1 w0_ e0_ e1_ r_v1; have e_w1 := e0_.trans e1_; have b_v1 := e0_.size; clear e0_ e1_)
  obtain ⟨vm, rfl, oM⟩ := r_v1
  obtain ⟨am, cm, rfl, hM⟩ := own_sl oM
  have x1 := e_w1
  clear b_v1 e_w1 oM
  repeat (first | refine Vx ?_ | (apply Ops_q; (case hon => exact Va); (case hd => rfl); (case hq => exact YlA)) | refine Vr ?_ | refine Vt ?_ | refine Vf ?_ | refine Vm ?_ | refine Ve ?_ | refine Vo ?_ | refine Vz ?_ | refine Vn ?_)
  (refine Ops_callR (by exact Va) rfl rfl (fun w_ e_ => trim_v ao L c w_ (hS.ens.ext (x1.trans e_)) hLa hn) ?_; intro v2 w2 w0_ e0_ e1_ r_v2; have e_w2 := e0_.trans e1_; have b_v2 := e0_.size; clear e0_ e1_)
  obtain ⟨vt, rfl, oT⟩ := r_v2
  obtain ⟨at_, ct, rfl, hTT⟩ := own_sl oT
  have x2 := x1.trans e_w2
  replace hM := hM.ext e_w2
  clear b_v2 e_w2 oT x1
  repeat (first | refine Vx ?_ | (apply Ops_q; (case hon => exact Va); (case hd => rfl); (case hq => exact YlA)) | refine Vr ?_ | refine Vt ?_ | refine Vf ?_ | refine Vm ?_ | refine Ve ?_ | refine Vo ?_ | refine Vz ?_ | refine Vn ?_)
  (refine Ops_callR (by exact Va) rfl rfl (fun w_ e_ => build_v ao L c w_ (hS.ens.ext (x2.trans e_)) hLa hn) ?_; intro v3 w3 w0_ e0_ e1_ r_v3; have e_w3 := e0_.trans e1_; have b_v3 := e0_.size; clear e0_ e1_)
  obtain ⟨aN, aL, N, C, cN, cL, rfl, hB, hN, hC⟩ := r_v3
  obtain ⟨q1, q2⟩ := hB.size
  have x3 := x2.trans e_w3
  replace hM := hM.ext e_w3
  replace hTT := hTT.ext e_w3
  clear b_v3 e_w3 x2
  repeat (first | refine Vx ?_ | (apply Ops_q; (case hon => exact Va); (case hd => rfl); (case hq => exact YlA)) | refine Vr ?_ | refine Vt ?_ | refine Vf ?_ | refine Vm ?_ | refine Ve ?_ | refine Vo ?_ | refine Vz ?_ | refine Vn ?_)
  (refine Ops_alloc (by exact Va) rfl ?_; intro w4 b9 n_b9; have k_b9 := n_b9.blk)
  repeat (first | refine Vx ?_ | (apply Ops_q; (case hon => exact Va); (case hd => rfl); (case hq => exact YlA)) | refine Vr ?_ | refine Vt ?_ | refine Vf ?_ | refine Vm ?_ | refine Ve ?_ | refine Vo ?_ | refine Vz ?_ | refine Vn ?_)
  (refine Ops_store (by exact Va) rfl rfl (by assumption) (by first | rfl | exact OneAll.h) ?_; intro w5 u_w5; have k_b9 := u_w5.blk)
  have y5 : Ext w3 w5 := u_w5.below n_b9.ext n_b9.ge
  have x5 := x3.trans y5
  replace hM := hM.ext y5
  replace hTT := hTT.ext y5
  replace hN := hN.ext y5
  replace hC := hC.ext y5
  clear u_w5 n_b9 y5 x3
  repeat (first | refine Vx ?_ | (apply Ops_q; (case hon => exact Va); (case hd => rfl); (case hq => exact YlA)) | refine Vr ?_ | refine Vt ?_ | refine Vf ?_ | refine Vm ?_ | refine Ve ?_ | refine Vo ?_ | refine Vz ?_ | refine Vn ?_)
  by_cases h0 : chk L = 0
  · obtain ⟨hMa, hTa, hmt, htl, hlk⟩ := tabs_of h0 hLa
    have hTb := (chk_iff.1 h0).2
    have hcf : IsCf (lk L) N C := by
      rcases hB with ⟨_, h⟩ | ⟨h, _⟩
      · exact h
      · exact absurd h0 h
    obtain ⟨hlm, hlt⟩ := hlk a haa
    have hlL : lkT L a = lk L a := by rw [lkT, if_pos h0]
    have d0 : (!decide (chk L = 0)) = false := by rw [decide_eq_true h0]; rfl
    have hgm := geM_lk h0
    generalize minT L = M at *
    generalize trmT L = T at *
    refine V_no rfl d0 ?_
    clear d0 hB
    rw [h0]
    repeat (first | refine Vx ?_ | (apply Ops_q; (case hon => exact Va); (case hd => rfl); (case hq => exact YlA)) | refine Vr ?_ | refine Vt ?_ | refine Vf ?_ | refine Vm ?_ | refine Ve ?_ | refine Vo ?_ | refine Vz ?_ | refine Vn ?_)
    (refine Ops_callR (by exact Va) rfl rfl (fun w_ e_ => of_entries_v ao L c w_ (hS.ens.ext (x5.trans e_)) hLa hn) ?_; intro v6 w6 w0_ e0_ e1_ r_v6; have e_w6 := e0_.trans e1_; have b_v6 := e0_.size; clear e0_ e1_)
    unfold OfR at r_v6
    rw [if_pos hTb.allOk] at r_v6
    obtain ⟨bt, Nt, rfl, ht⟩ := r_v6
    have x6 := x5.trans e_w6
    replace hM := hM.ext e_w6
    replace hTT := hTT.ext e_w6
    replace hN := hN.ext e_w6
    replace hC := hC.ext e_w6
    replace k_b9 := k_b9.ext e_w6
    clear b_v6 e_w6 x5
    have d1 : decide ((T.length : Int) < (M.length : Int)) = false := decide_eq_false (by omega)
    have d2 : decide ((L.length : Int) < (T.length : Int)) = false := decide_eq_false (by omega)
    have hmn : M.length ≤ 1000000 := by omega
    have htn : T.length ≤ 1000000 := by omega
    have hlkE : lookO (ofS L).1 a = lk L a := lookO_eq a hTb
    clear hmt htl hlk
    repeat (first | refine Vx ?_ | (apply Ops_q; (case hon => exact Va); (case hd => rfl); (case hq => exact YlA)) | refine Vr ?_ | refine Vt ?_ | refine Vf ?_ | refine Vm ?_ | refine Ve ?_ | refine Vo ?_ | refine Vz ?_ | refine Vn ?_)
    refine Ops_know rfl rfl d1 ?_
    repeat (first | refine Vx ?_ | (apply Ops_q; (case hon => exact Va); (case hd => rfl); (case hq => exact YlA)) | refine Vr ?_ | refine Vt ?_ | refine Vf ?_ | refine Vm ?_ | refine Ve ?_ | refine Vo ?_ | refine Vz ?_ | refine Vn ?_)
    refine V_no rfl d2 ?_
    clear d1 d2
    repeat (first | refine Vx ?_ | (apply Ops_q; (case hon => exact Va); (case hd => rfl); (case hq => exact YlA)) | refine Vr ?_ | refine Vt ?_ | refine Vf ?_ | refine Vm ?_ | refine Ve ?_ | refine Vo ?_ | refine Vz ?_ | refine Vn ?_)
    (apply Ops_q; (case hon => (exact Va)); (case hd => rfl); (case hq => exact Yl_call rfl (fun w_ e_ => lookup_v a w_ (ht.ext e_) haa)))
    repeat (first | refine Vx ?_ | (apply Ops_q; (case hon => exact Va); (case hd => rfl); (case hq => exact YlA)) | refine Vr ?_ | refine Vt ?_ | refine Vf ?_ | refine Vm ?_ | refine Ve ?_ | refine Vo ?_ | refine Vz ?_ | refine Vn ?_)
    (refine Ops_alloc (by exact Va) rfl ?_; intro w7 b14 n_b14; have k_b14 := n_b14.blk)
    repeat (first | refine Vx ?_ | (apply Ops_q; (case hon => exact Va); (case hd => rfl); (case hq => exact YlA)) | refine Vr ?_ | refine Vt ?_ | refine Vf ?_ | refine Vm ?_ | refine Ve ?_ | refine Vo ?_ | refine Vz ?_ | refine Vn ?_)
    (refine Ops_store (by exact Va) rfl rfl (by assumption) (by first | rfl | exact OneAll.h) ?_; intro w8 u_w8; have k_b14 := u_w8.blk)
    have y8 : Ext w6 w8 := u_w8.below n_b14.ext n_b14.ge
    have x8 := x6.trans y8
    replace hM := hM.ext y8
    replace hTT := hTT.ext y8
    replace hN := hN.ext y8
    replace hC := hC.ext y8
    replace k_b9 := k_b9.ext y8
    clear u_w8 n_b14 y8 x6 ht
    repeat (first | refine Vx ?_ | (apply Ops_q; (case hon => exact Va); (case hd => rfl); (case hq => exact YlA)) | refine Vr ?_ | refine Vt ?_ | refine Vf ?_ | refine Vm ?_ | refine Ve ?_ | refine Vo ?_ | refine Vz ?_ | refine Vn ?_)
    refine V_meet1 (fun _ : Unit => [(13, .int .i64 (lk L a)), (0, .slice ao L.length c), (1, .int .u32 a), (5, .slice am M.length cm), (7, .slice at_ T.length ct), (9, .pointer (some ⟨b9, 0, none⟩))]) (fun _ w' => w' = w8) ?_ ?_
    · unfold lookO at hlkE
      cases ho : lookE (ofS L).1 a with
      | none =>
        rw [ho] at hlkE
        repeat (first | refine Vx ?_ | (apply Ops_q; (case hon => exact Va); (case hd => rfl); (case hq => exact YlA)) | refine Vr ?_ | refine Vt ?_ | refine Vf ?_ | refine Vm ?_ | refine Ve ?_ | refine Vo ?_ | refine Vz ?_ | refine Vn ?_)
        rw [← hlkE]
        exact ⟨(), (by repeat (first | exact trivial | refine ⟨rfl, ?_⟩)), rfl⟩
      | some e =>
        rw [ho] at hlkE k_b14
        repeat (first | refine Vx ?_ | (apply Ops_q; (case hon => exact Va); (case hd => rfl); (case hq => exact YlA)) | refine Vr ?_ | refine Vt ?_ | refine Vf ?_ | refine Vm ?_ | refine Ve ?_ | refine Vo ?_ | refine Vz ?_ | refine Vn ?_)
        rw [← hlkE]
        exact ⟨(), (by repeat (first | exact trivial | refine ⟨rfl, ?_⟩)), rfl⟩
    rintro _ w9 rfl
    clear k_b14 hlkE
    repeat (first | refine Vx ?_ | (apply Ops_q; (case hon => exact Va); (case hd => rfl); (case hq => exact YlA)) | refine Vr ?_ | refine Vt ?_ | refine Vf ?_ | refine Vm ?_ | refine Ve ?_ | refine Vo ?_ | refine Vz ?_ | refine Vn ?_)
    refine Ops_callR (R := fun _ r _ => LkC N C a r) (by exact Va) rfl rfl (fun w_ e_ => lookupS_v aN aL N C cN cL a w_ (hN.ext e_) (hC.ext e_) hcf.w (by omega) (by omega) haa) ?_
    intro v9 w10 w0_ e0 e1 hR
    have y10 := e0.trans e1
    have x10 := x8.trans y10
    obtain ⟨n, hn1, hn6, rfl⟩ : ∃ n : Nat, 1 ≤ n ∧ n ≤ 6 ∧ v9 = .tuple #[.int .i64 (lk L a), .int .i64 n] := by
      rcases hR with ⟨g, hg, hc, rfl⟩ | ⟨hno, _⟩
      · exact ⟨_, dep_pos g a 5 (0, 0), dep_le g a 6 (0, 0), by rw [isCf_inj hc hcf haa]⟩
      · exact absurd hcf (hno _ hgm)
    have l1 := fun w_ (e_ : Ext w10 w_) => lookupA_v ao L c a w_ (hS.ens.ext (x10.trans e_)) hLa hn haa
    have l2 := fun w_ (e_ : Ext w10 w_) => lookupA_v am M cm a w_ (hM.ens.ext (y10.trans e_)) hMa hmn haa
    have l3 := fun w_ (e_ : Ext w10 w_) => lookupA_v at_ T ct a w_ (hTT.ens.ext (y10.trans e_)) hTa htn haa
    rw [hlL] at l1
    rw [hlm] at l2
    rw [hlt] at l3
    have e1' : decide ((1 : Int) ≤ (n : Int)) = true := decide_eq_true (by omega)
    have e2' : decide ((n : Int) ≤ 6) = true := decide_eq_true (by omega)
    generalize lk L a = x at *
    have dx : (!decide (x = x)) = false := by rw [decide_eq_true rfl]; rfl
    clear hR e0 e1 hn1 hn6 haa hn hmn htn hcf q1 q2
    repeat (first | refine Vx ?_ | (apply Ops_q; (case hon => exact Va); (case hd => rfl); (case hq => exact YlA)) | refine Vr ?_ | refine Vt ?_ | refine Vf ?_ | refine Vm ?_ | refine Ve ?_ | refine Vo ?_ | refine Vz ?_ | refine Vn ?_)
    (apply Ops_q; (case hon => (exact Va)); (case hd => rfl); (case hq => exact Yl_call rfl (fun w_ e_ => l1 w_ e_)))
    repeat (first | refine Vx ?_ | (apply Ops_q; (case hon => exact Va); (case hd => rfl); (case hq => exact YlA)) | refine Vr ?_ | refine Vt ?_ | refine Vf ?_ | refine Vm ?_ | refine Ve ?_ | refine Vo ?_ | refine Vz ?_ | refine Vn ?_)
    refine Ops_know rfl rfl dx ?_
    repeat (first | refine Vx ?_ | (apply Ops_q; (case hon => exact Va); (case hd => rfl); (case hq => exact YlA)) | refine Vr ?_ | refine Vt ?_ | refine Vf ?_ | refine Vm ?_ | refine Ve ?_ | refine Vo ?_ | refine Vz ?_ | refine Vn ?_)
    (apply Ops_q; (case hon => (exact Va)); (case hd => rfl); (case hq => exact Yl_call rfl (fun w_ e_ => l2 w_ e_)))
    repeat (first | refine Vx ?_ | (apply Ops_q; (case hon => exact Va); (case hd => rfl); (case hq => exact YlA)) | refine Vr ?_ | refine Vt ?_ | refine Vf ?_ | refine Vm ?_ | refine Ve ?_ | refine Vo ?_ | refine Vz ?_ | refine Vn ?_)
    refine Ops_know rfl rfl dx ?_
    repeat (first | refine Vx ?_ | (apply Ops_q; (case hon => exact Va); (case hd => rfl); (case hq => exact YlA)) | refine Vr ?_ | refine Vt ?_ | refine Vf ?_ | refine Vm ?_ | refine Ve ?_ | refine Vo ?_ | refine Vz ?_ | refine Vn ?_)
    (apply Ops_q; (case hon => (exact Va)); (case hd => rfl); (case hq => exact Yl_call rfl (fun w_ e_ => l3 w_ e_)))
    repeat (first | refine Vx ?_ | (apply Ops_q; (case hon => exact Va); (case hd => rfl); (case hq => exact YlA)) | refine Vr ?_ | refine Vt ?_ | refine Vf ?_ | refine Vm ?_ | refine Ve ?_ | refine Vo ?_ | refine Vz ?_ | refine Vn ?_)
    refine Ops_know rfl rfl dx ?_
    repeat (first | refine Vx ?_ | (apply Ops_q; (case hon => exact Va); (case hd => rfl); (case hq => exact YlA)) | refine Vr ?_ | refine Vt ?_ | refine Vf ?_ | refine Vm ?_ | refine Ve ?_ | refine Vo ?_ | refine Vz ?_ | refine Vn ?_)
    refine V_no rfl dx ?_
    repeat (first | refine Vx ?_ | (apply Ops_q; (case hon => exact Va); (case hd => rfl); (case hq => exact YlA)) | refine Vr ?_ | refine Vt ?_ | refine Vf ?_ | refine Vm ?_ | refine Ve ?_ | refine Vo ?_ | refine Vz ?_ | refine Vn ?_)
    refine Ops_know rfl rfl e1' ?_
    repeat (first | refine Vx ?_ | (apply Ops_q; (case hon => exact Va); (case hd => rfl); (case hq => exact YlA)) | refine Vr ?_ | refine Vt ?_ | refine Vf ?_ | refine Vm ?_ | refine Ve ?_ | refine Vo ?_ | refine Vz ?_ | refine Vn ?_)
    refine Ops_know rfl rfl e2' ?_
    repeat (first | refine Vx ?_ | (apply Ops_q; (case hon => exact Va); (case hd => rfl); (case hq => exact YlA)) | refine Vr ?_ | refine Vt ?_ | refine Vf ?_ | refine Vm ?_ | refine Ve ?_ | refine Vo ?_ | refine Vz ?_ | refine Vn ?_)
    (apply Ops_q; (case hon => (exact Va)); (case hd => rfl); (case hq => exact Yl_call rfl (fun w_ e_ => lives4_v w_)))
    repeat (first | refine Vx ?_ | (apply Ops_q; (case hon => exact Va); (case hd => rfl); (case hq => exact YlA)) | refine Vr ?_ | refine Vt ?_ | refine Vf ?_ | refine Vm ?_ | refine Ve ?_ | refine Vo ?_ | refine Vz ?_ | refine Vn ?_)
    refine ret1 (by first | exact .inl rfl | exact .inr rfl) rfl rfl ?_
    exact Ret_mk rfl x10
  · have d0 : (!decide (chk L = 0)) = true := by rw [decide_eq_false h0]; rfl
    have d1 : decide (chk L = chk L) = true := decide_eq_true rfl
    refine V_yes rfl d0 ?_
    repeat (first | refine Vx ?_ | (apply Ops_q; (case hon => exact Va); (case hd => rfl); (case hq => exact YlA)) | refine Vr ?_ | refine Vt ?_ | refine Vf ?_ | refine Vm ?_ | refine Ve ?_ | refine Vo ?_ | refine Vz ?_ | refine Vn ?_)
    rw [d1]
    repeat (first | refine Vx ?_ | (apply Ops_q; (case hon => exact Va); (case hd => rfl); (case hq => exact YlA)) | refine Vr ?_ | refine Vt ?_ | refine Vf ?_ | refine Vm ?_ | refine Ve ?_ | refine Vo ?_ | refine Vz ?_ | refine Vn ?_)
    rw [d1]
    repeat (first | refine Vx ?_ | (apply Ops_q; (case hon => exact Va); (case hd => rfl); (case hq => exact YlA)) | refine Vr ?_ | refine Vt ?_ | refine Vf ?_ | refine Vm ?_ | refine Ve ?_ | refine Vo ?_ | refine Vz ?_ | refine Vn ?_)
    (apply Ops_q; (case hon => (exact Va)); (case hd => rfl); (case hq => exact Yl_call rfl (fun w_ e_ => check_v ao L c w_ (hS.ens.ext (x5.trans e_)) hLa hn)))
    repeat (first | refine Vx ?_ | (apply Ops_q; (case hon => exact Va); (case hd => rfl); (case hq => exact YlA)) | refine Vr ?_ | refine Vt ?_ | refine Vf ?_ | refine Vm ?_ | refine Ve ?_ | refine Vo ?_ | refine Vz ?_ | refine Vn ?_)
    rw [d1]
    repeat (first | refine Vx ?_ | (apply Ops_q; (case hon => exact Va); (case hd => rfl); (case hq => exact YlA)) | refine Vr ?_ | refine Vt ?_ | refine Vf ?_ | refine Vm ?_ | refine Ve ?_ | refine Vo ?_ | refine Vz ?_ | refine Vn ?_)
    refine ret1 (by first | exact .inl rfl | exact .inr rfl) rfl rfl ?_
    exact Ret_mk rfl x5
end Go.Proofs.Ytjpnaofoeeegeaa


/-
  What lies behind an argument that is a slice: a list, each of whose elements is read by its type.
  No conditions beyond those that each statement names.
-/
namespace Go.Proofs.Ytjpnaofoeeegeaa
open Go.ChangeShapes Go.WideShapes Go.ChangeAt Go.RowKit Go.Joins Go.Deep

section
variable {H : Type} {enc : TypeId × Value → H} {P : Program} {w : World} {base : Nat} {spare : Nat → Bool} {held : Bool}
/-- The cells read as a datum of the type. -/
def Reads (enc : TypeId × Value → H) (P : Program) (w : World) (base : Nat) (spare : Nat → Bool) (held : Bool) (t : TypeId) (cs : List Value) : Prop := ∃ n x, DataW.trod enc P w base spare held n t cs = some x
theorem reads_of {t : TypeId} {v : Value} {d : DataW H} {p : List MemPlace} (h : DataW.Trod enc P w base spare held t v d p) : Reads enc P w base spare held t v.cells.toList := by
  obtain ⟨n, hf⟩ := h
  exact ⟨n, _, hf⟩
theorem reads_int {t : TypeId} {k : IntKind} {cs : List Value} (ht : P.underlying t = some (.int k)) (h : Reads enc P w base spare held t cs) : ∃ n, cs = [.int k n] ∧ (Lit.int k n).wf = true := by
  obtain ⟨n, x, h⟩ := h
  obtain ⟨n, h1, _, h2⟩ := DataW.trod_int ht h
  exact ⟨n, h1, h2⟩
theorem reads_slice {t e : TypeId} {cs : List Value} (ht : P.underlying t = some (.slice e)) (h : Reads enc P w base spare held t cs) :
    ∃ (ao : Option Addr) (len cap : Nat) (D : Nat → List Value), cs = [.slice ao len cap] ∧ len ≤ cap ∧ cap ≤ maxLen ∧ (ao = none → len = 0) ∧
      ∀ i, i < len → ∃ ad, ao = some ad ∧ (D i).length = P.cellsOf e ∧ Cells w (ad.add (i * P.cellsOf e)) (D i) ∧ Reads enc P w base spare held e (D i) := by
  obtain ⟨n, x, h⟩ := h
  rcases open_slice ht h with ⟨rfl, _⟩ | ⟨a, len, cap, m, n, D, Pl, rfl, hb, hl, hm, hmm, _, hx⟩
  · exact ⟨none, 0, 0, fun _ => [], rfl, Nat.le_refl _, Nat.zero_le _, fun _ => rfl, fun i h => by omega⟩
  · have hlm : len ≤ m := by rw [hmm]; split <;> omega
    have each : ∀ i, i < len → ∃ q : List Value, q.length = P.cellsOf e ∧ Cells w (a.add (i * P.cellsOf e)) q ∧ Reads enc P w base spare held e q := by
      intro i hi
      obtain ⟨cs', h1, h2⟩ := hx i (by omega)
      obtain ⟨_, hlen, hcell⟩ := World.cells?_some h1
      refine ⟨cs', hlen, fun j v hj => ?_, n, _, h2⟩
      rw [hcell j (by rw [← hlen]; exact (List.getElem?_eq_some_iff.1 hj).1)]
      exact hj
    obtain ⟨q, hq⟩ := choose_lt each
    exact ⟨some a, len, cap, q, rfl, hl, hm, (fun h => by cases h), fun i hi => ⟨a, rfl, (hq i hi).1, (hq i hi).2.1, (hq i hi).2.2⟩⟩
/-- A slice of elements each of which is read by 'dec'. -/
theorem reads_list {t e : TypeId} {cs : List Value} {α : Type} {n0 : Nat} {φ : α → Prop} (en : α → List Value) (ht : P.underlying t = some (.slice e)) (hC : P.cellsOf e = n0) (h : Reads enc P w base spare held t cs)
    (dec : ∀ cs, Reads enc P w base spare held e cs → cs.length = n0 → ∃ a : α, cs = en a ∧ φ a) :
    ∃ (ao : Option Addr) (L : List α) (c : Nat), cs = [.slice ao L.length c] ∧ Arr w n0 ao (L.map en) ∧ L.length ≤ c ∧ c ≤ maxLen ∧ ∀ x ∈ L, φ x := by
  obtain ⟨ao, len, cap, D, rfl, hl, hm, hn, hD⟩ := reads_slice ht h
  have each : ∀ i, i < len → ∃ a : α, D i = en a ∧ φ a := fun i hi => by
    obtain ⟨ad, _, h2, _, h4⟩ := hD i hi
    exact dec (D i) h4 (h2.trans hC)
  have hlist : ∀ k, k ≤ len → ∃ L : List α, L.length = k ∧ (∀ x ∈ L, φ x) ∧ ∀ i x, L[i]? = some x → D i = en x := by
    intro k
    induction k with
    | zero => exact fun _ => ⟨[], rfl, by simp, fun i x h => by simp at h⟩
    | succ k ih =>
      intro hk
      obtain ⟨L, h1, h2, h3⟩ := ih (by omega)
      obtain ⟨a, ha, hφ⟩ := each k (by omega)
      refine ⟨L ++ [a], by simp [h1], fun x hx => ?_, fun i x hi => ?_⟩
      · rcases List.mem_append.1 hx with hx | hx
        · exact h2 x hx
        · obtain rfl := List.mem_singleton.1 hx; exact hφ
      · rw [List.getElem?_append] at hi
        split at hi
        · exact h3 i x hi
        · rename_i hge
          have : i = k := by
            have := (List.getElem?_eq_some_iff.1 hi).1
            simp at this; omega
          subst this
          rw [h1, Nat.sub_self] at hi
          cases hi
          exact ha
  obtain ⟨L, h1, h2, h3⟩ := hlist len (Nat.le_refl _)
  subst h1
  refine ⟨ao, L, cap, rfl, fun k x hk => ?_, hl, hm, h2⟩
  rw [List.getElem?_map] at hk
  obtain ⟨a, ha, rfl⟩ := Option.map_eq_some_iff.1 hk
  obtain ⟨ad, e1, _, e3, _⟩ := hD k (List.getElem?_eq_some_iff.1 ha).1
  rw [hC, h3 k a ha] at e3
  exact ⟨ad, e1, e3⟩
/-- A struct's fields, each of which reads by its own type. -/
theorem reads_struct {t : TypeId} {fs : Array Field} {cs : List Value} (ht : P.underlying t = some (.struct fs)) (h : Reads enc P w base spare held t cs) :
    cs.length = P.cellsOf t ∧ ∀ (i : Nat) (f : Field), fs[i]? = some f → Reads enc P w base spare held f.type ((cs.drop f.offset).take (P.cellsOf f.type)) := by
  obtain ⟨n, x, h⟩ := h
  obtain ⟨xs, m, _, _, h1, h2, h3⟩ := DataW.trod_struct ht h
  refine ⟨h1, fun i f hf => ⟨m, ?_⟩⟩
  have := h3 i f hf
  have hi : i < xs.length := by rw [h2]; exact (Array.getElem?_eq_some_iff.1 hf).1
  rw [List.getElem?_eq_getElem hi] at this
  exact ⟨_, this⟩
/-- An argument that is a slice. -/
theorem open_list {t e : TypeId} {v : Value} {d : DataW H} {p : List MemPlace} {b0 : Nat} {α : Type} {n0 : Nat} {φ : α → Prop} (en : α → List Value) (ht : P.underlying t = some (.slice e)) (hC : P.cellsOf e = n0) (hv : Value.okWide P w .any b0 t v)
    (h : DataW.Trod enc P w base spare held t v d p) (dec : ∀ cs, Reads enc P w base spare held e cs → cs.length = n0 → ∃ a : α, cs = en a ∧ φ a) :
    ∃ (ao : Option Addr) (L : List α) (c : Nat), v = .slice ao L.length c ∧ Arr w n0 ao (L.map en) ∧ L.length ≤ c ∧ c ≤ maxLen ∧ ∀ x ∈ L, φ x := by
  obtain ⟨ao, n, c, rfl⟩ := okWide_slice ht hv
  obtain ⟨ao', L, c', h1, h2⟩ := reads_list en ht hC (reads_of h) dec
  have : (Value.slice ao n c).cells.toList = [.slice ao n c] := rfl
  rw [this] at h1
  simp only [List.cons.injEq, Value.slice.injEq, and_true] at h1
  obtain ⟨rfl, rfl, rfl⟩ := h1
  exact ⟨ao, L, c, rfl, h2⟩
end
end Go.Proofs.Ytjpnaofoeeegeaa


/-
  Entries: the arguments, read off what the rows say.
  No conditions beyond those that each statement names.
-/
namespace Go.Proofs.Ytjpnaofoeeegeaa
open Go.ChangeShapes Go.WideShapes Go.ChangeAt Go.RowKit Go.Joins Go.Deep

theorem own : ownKnob Try.prog.godebug = none := by kernel_rfl
theorem uPrefix : ∃ fs, Try.prog.underlying 40 = some (.struct fs) ∧ fs.map (fun f => (f.type, f.offset)) = #[(24, 0), (3, 1)] := ⟨_, Try.underlying40, by kernel_rfl⟩
theorem uEntry : ∃ fs, Try.prog.underlying 42 = some (.struct fs) ∧ fs.map (fun f => (f.type, f.offset)) = #[(40, 0), (3, 2)] := ⟨_, Try.underlying42, by kernel_rfl⟩
theorem two_fields {fs : Array Field} {t0 t1 : TypeId} {o0 o1 : Nat} (h : fs.map (fun f => (f.type, f.offset)) = #[(t0, o0), (t1, o1)]) : ∃ f0 f1, fs[0]? = some f0 ∧ fs[1]? = some f1 ∧ f0.type = t0 ∧ f0.offset = o0 ∧ f1.type = t1 ∧ f1.offset = o1 := by
  have hs : fs.size = 2 := by have := congrArg Array.size h; simpa using this
  have h0 : fs[0]? = some (fs[0]'(by omega)) := Array.getElem?_eq_getElem (by omega)
  have h1 : fs[1]? = some (fs[1]'(by omega)) := Array.getElem?_eq_getElem (by omega)
  have e0 : (fs.map (fun f => (f.type, f.offset)))[0]? = some (t0, o0) := by rw [h]; rfl
  have e1 : (fs.map (fun f => (f.type, f.offset)))[1]? = some (t1, o1) := by rw [h]; rfl
  rw [Array.getElem?_map, h0] at e0
  rw [Array.getElem?_map, h1] at e1
  simp only [Option.map_some, Option.some.injEq, Prod.mk.injEq] at e0 e1
  exact ⟨_, _, h0, h1, e0.1, e0.2, e1.1, e1.2⟩
section
variable {H : Type} {enc : TypeId × Value → H} {w : World} {base : Nat} {spare : Nat → Bool} {held : Bool}
theorem addr_of {cs : List Value} (h : Reads enc Try.prog w base spare held 24 cs) : ∃ a : Nat, cs = [.int .u32 a] ∧ a < 4294967296 := by
  obtain ⟨n, e, hw⟩ := reads_int Try.underlying24 h
  have hb := bounds_u32 hw
  exact ⟨n.toNat, by rw [e, Int.toNat_of_nonneg hb.1], by omega⟩
set_option maxRecDepth 100000 in
theorem pf_of {cs : List Value} (h : Reads enc Try.prog w base spare held 40 cs) : ∃ p : Pf, cs = p.cells ∧ p.a < 4294967296 ∧ (Lit.int .i64 p.n).wf = true := by
  obtain ⟨fs, hu, hm⟩ := uPrefix
  obtain ⟨f0, f1, g0, g1, t0, o0, t1, o1⟩ := two_fields hm
  obtain ⟨hl, hf⟩ := reads_struct hu h
  have hC : Try.prog.cellsOf 40 = 2 := by kernel_rfl
  have c0 : Try.prog.cellsOf 24 = 1 := by kernel_rfl
  have c1 : Try.prog.cellsOf 3 = 1 := by kernel_rfl
  have h0 := hf 0 f0 g0
  have h1 := hf 1 f1 g1
  rw [t0, o0, c0] at h0
  rw [t1, o1, c1] at h1
  rw [hC] at hl
  match cs, hl with
  | [x, y], _ =>
    obtain ⟨a, e0, ha⟩ := addr_of h0
    obtain ⟨n, e1, hn⟩ := reads_int Try.underlying3 h1
    simp only [List.drop_zero, List.take_succ_cons, List.take_zero, List.drop_succ_cons, List.cons.injEq, and_true] at e0 e1
    subst e0; subst e1
    exact ⟨⟨a, n⟩, rfl, ha, hn⟩
set_option maxRecDepth 100000 in
theorem en_of (cs : List Value) (h : Reads enc Try.prog w base spare held 42 cs) (hl : cs.length = 3) : ∃ e : En, cs = e.cells ∧ (e.p.a < 4294967296 ∧ (Lit.int .i64 e.p.n).wf = true ∧ (Lit.int .i64 e.v).wf = true) := by
  obtain ⟨fs, hu, hm⟩ := uEntry
  obtain ⟨f0, f1, g0, g1, t0, o0, t1, o1⟩ := two_fields hm
  obtain ⟨_, hf⟩ := reads_struct hu h
  have c0 : Try.prog.cellsOf 40 = 2 := by kernel_rfl
  have c1 : Try.prog.cellsOf 3 = 1 := by kernel_rfl
  have h0 := hf 0 f0 g0
  have h1 := hf 1 f1 g1
  rw [t0, o0, c0] at h0
  rw [t1, o1, c1] at h1
  match cs, hl with
  | [x, y, z], _ =>
    obtain ⟨p, e0, ha, hn⟩ := pf_of h0
    obtain ⟨v, e1, hv⟩ := reads_int Try.underlying3 h1
    simp only [List.drop_zero, List.take_succ_cons, List.take_zero, List.drop_succ_cons, List.cons.injEq, and_true, Pf.cells] at e0 e1
    obtain ⟨rfl, rfl⟩ := e0
    subst e1
    exact ⟨⟨p, v⟩, rfl, ha, hn, hv⟩
set_option maxRecDepth 100000 in
theorem open_addr {v : Value} {d : DataW H} {p : List MemPlace} {b0 : Nat} (hv : Value.okWide Try.prog w .any b0 24 v) (h : DataW.Trod enc Try.prog w base spare held 24 v d p) : ∃ a : Nat, v = .int .u32 a ∧ a < 4294967296 := by
  obtain ⟨n, rfl, _, _, hw⟩ := open_int Try.underlying24 hv h
  have hb := bounds_u32 hw
  exact ⟨n.toNat, by rw [Int.toNat_of_nonneg hb.1], by omega⟩
end
end Go.Proofs.Ytjpnaofoeeegeaa


/-
  Arguments that are slices of entries, read as lists.
  No conditions.
-/
namespace Go.Proofs.Ytjpnaofoeeegeaa
open Go.ChangeShapes Go.WideShapes Go.ChangeAt Go.RowKit Go.Joins Go.Deep

section
variable {H : Type} {enc : TypeId × Value → H} {w : World} {base : Nat} {spare : Nat → Bool} {held : Bool}
set_option maxRecDepth 100000 in
theorem open_sl {v : Value} {d : DataW H} {p : List MemPlace} {b0 : Nat} (hv : Value.okWide Try.prog w .any b0 22 v) (h : DataW.Trod enc Try.prog w base spare held 22 v d p) :
    ∃ ao L c, v = .slice ao L.length c ∧ Sl w ao L.length c L ∧ ∀ e ∈ L, e.p.a < 4294967296 := by
  obtain ⟨ao, L, c, rfl, h2, h3, _, h4⟩ := open_list (φ := fun e : En => e.p.a < 4294967296 ∧ (Lit.int .i64 e.p.n).wf = true ∧ (Lit.int .i64 e.v).wf = true) En.cells Try.underlying22 (by kernel_rfl) hv h en_of
  refine ⟨ao, L, c, rfl, ⟨rfl, h2, h3, fun e => ?_⟩, fun e he => (h4 e he).1⟩
  subst e
  obtain ⟨n, x, hx⟩ := reads_of h
  rcases open_slice Try.underlying22 hx with ⟨h5, _⟩ | ⟨a, len, cap, m, n, D, Pl, h5, _⟩
  · have h6 : (Value.slice none L.length c).cells.toList = [.slice none L.length c] := rfl
    rw [h6] at h5
    simp only [List.cons.injEq, Value.slice.injEq, and_true] at h5
    exact h5.2.2
  · have h6 : (Value.slice none L.length c).cells.toList = [.slice none L.length c] := rfl
    rw [h6] at h5
    simp at h5
end
end Go.Proofs.Ytjpnaofoeeegeaa


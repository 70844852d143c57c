/-
  Part 5 of the texts that the proofs of this seat share: rules of a walk, contracts of functions, plain facts. Each piece says below what it proves.
  No conditions beyond those that each lemma states.
-/
import Derived.Test.YtkdjbddjblahkaaB4

/-
  Stable sorting with a function that compares: the walks of symMerge, stable, SortStableFunc.
  Conditions: the list is one's own, and not too long for a machine.
-/
namespace Go.Proofs.Ytkdjbddjblahkaa
open Go.RowKit

section
variable {base g n cap : Nat} {f : FuncId} [TFun Try.prog f] {cf : Nh → Nh → Int}
set_option maxHeartbeats 4000000 in
theorem symMerge_v (ho : Ord cf) (hcf : ∀ x y w', Calls Try.prog f #[x.val, y.val] w' (Ret (.int .i64 (cf x y)) w')) (hn : n ≤ 1000000000000) : ∀ (d : Nat) (L : List Nh) (a m b : Nat) (w : World), b - a ≤ d → Dat w base g n cap L → a < m → m < b → b ≤ n → Asc cf L a m → Asc cf L m b →
    Calls Try.prog 101 #[.slice (some ⟨g, 0, none⟩) n cap, .int .i64 a, .int .i64 m, .int .i64 b, .func (.func f) #[] #[]] w
      (Does (Blk1 g) (DatR base g n cap (fun L' => Moved L L' a b ∧ Asc cf L' a b)) w) := by
  intro d
  induction d with
  | zero => intro L a m b w h1 hD h2 h3; omega
  | succ d ih =>
  intro L a m b w hd hD ham hmb hb hA hB
  have hLl := hD.len
  refine V_enter (vs := [_, _, _, _, _]) Try.func101 rfl Try.ntmps101 (Nat.le_of_ble_eq_true rfl) ?_
  repeat (first | refine Vx ?_ | (apply Ops_q; (case hon => exact Va); (case hd => rfl); (case hq => exact YlA)) | refine Vr ?_ | refine Vt ?_ | refine Vf ?_ | refine Vm ?_ | refine Ve ?_ | refine Vo ?_ | refine Vz ?_ | refine Vn ?_)
  refine V_cond rfl (fun h1 => ?_) (fun h1 => ?_)
  · have hm : m = a + 1 := by have := of_decide_eq_true h1; omega
    obtain ⟨y, hy⟩ := hD.get (k := a) (by omega)
    repeat (first | refine Vx ?_ | (apply Ops_q; (case hon => exact Va); (case hd => rfl); (case hq => exact YlA)) | refine Vr ?_ | refine Vt ?_ | refine Vf ?_ | refine Vm ?_ | refine Ve ?_ | refine Vo ?_ | refine Vz ?_ | refine Vn ?_)
    refine V_loop (fun s : Nat × Nat => [(10, .int .i64 s.1), (11, .int .i64 s.2), (0, .slice (some ⟨g, 0, none⟩) n cap), (1, .int .i64 a), (2, .int .i64 m), (3, .int .i64 b), (4, .func (.func f) #[] #[])])
      (fun s w' => Ext w w' ∧ m ≤ s.1 ∧ s.1 ≤ s.2 ∧ s.2 ≤ b ∧ (s.1 = m ∨ ∃ x, L[s.1 - 1]? = some x ∧ cf x y < 0) ∧ (s.2 = b ∨ ∃ x, L[s.2]? = some x ∧ ¬cf x y < 0)) (fun s => s.2 - s.1) (m, b) (by repeat (first | exact trivial | refine ⟨rfl, ?_⟩))
      ⟨Ext.refl _, Nat.le_refl _, by dsimp only; omega, Nat.le_refl _, .inl rfl, .inl rfl⟩ ?_
    rintro ⟨i, j⟩ w1 ⟨e1, q1, q2, q3, q4, q5⟩
    dsimp only at q1 q2 q3 q4 q5 ⊢
    repeat (first | refine Vx ?_ | (apply Ops_q; (case hon => exact Va); (case hd => rfl); (case hq => exact YlA)) | refine Vr ?_ | refine Vt ?_ | refine Vf ?_ | refine Vm ?_ | refine Ve ?_ | refine Vo ?_ | refine Vz ?_ | refine Vn ?_)
    refine V_cond rfl (fun hg => ?_) (fun hg => ?_)
    · replace hg := of_decide_eq_true hg
      obtain ⟨h, hh⟩ : ∃ h : Nat, ((i : Int) + (j : Int)) / 2 = (h : Int) := ⟨(i + j) / 2, by omega⟩
      have hh2 : i ≤ h ∧ h < j := by omega
      obtain ⟨x, hx⟩ := hD.get (k := h) (by omega)
      have hcx := (hD.at hx).ext e1
      have hcy := (hD.at hy).ext e1
      repeat (first | refine Vx ?_ | (apply Ops_q; (case hon => exact Va); (case hd => rfl); (case hq => exact YlA)) | refine Vr ?_ | refine Vt ?_ | refine Vf ?_ | refine Vm ?_ | refine Ve ?_ | refine Vo ?_ | refine Vz ?_ | refine Vn ?_)
      rw [hh]
      repeat (first | refine Vx ?_ | (apply Ops_q; (case hon => exact Va); (case hd => rfl); (case hq => exact YlA)) | refine Vr ?_ | refine Vt ?_ | refine Vf ?_ | refine Vm ?_ | refine Ve ?_ | refine Vo ?_ | refine Vz ?_ | refine Vn ?_)
      (apply Ops_q; (case hon => (exact Va)); (case hd => rfl); (case hq => exact Yl_indexS (j := h) rfl rfl (by omega)))
      repeat (first | refine Vx ?_ | (apply Ops_q; (case hon => exact Va); (case hd => rfl); (case hq => exact YlA)) | refine Vr ?_ | refine Vt ?_ | refine Vf ?_ | refine Vm ?_ | refine Ve ?_ | refine Vo ?_ | refine Vz ?_ | refine Vn ?_)
      (apply Ops_q; (case hon => (exact Va)); (case hd => rfl); (case hq => exact Yl_indexS (j := a) rfl rfl (by omega)))
      repeat (first | refine Vx ?_ | (apply Ops_q; (case hon => exact Va); (case hd => rfl); (case hq => exact YlA)) | refine Vr ?_ | refine Vt ?_ | refine Vf ?_ | refine Vm ?_ | refine Ve ?_ | refine Vo ?_ | refine Vz ?_ | refine Vn ?_)
      (apply Ops_q; (case hon => first | exact on_none | exact on_guard rfl rfl); (case hd => rfl); (case hq => exact Yl_callv (first := []) (vs := [x.val, y.val]) (cap := []) rfl rfl (fun w_ e_ => hcf _ _ w_)))
      repeat (first | refine Vx ?_ | (apply Ops_q; (case hon => exact Va); (case hd => rfl); (case hq => exact YlA)) | refine Vr ?_ | refine Vt ?_ | refine Vf ?_ | refine Vm ?_ | refine Ve ?_ | refine Vo ?_ | refine Vz ?_ | refine Vn ?_)
      refine V_cond rfl (fun h5 => ?_) (fun h5 => ?_)
      · repeat (first | refine Vx ?_ | (apply Ops_q; (case hon => exact Va); (case hd => rfl); (case hq => exact YlA)) | refine Vr ?_ | refine Vt ?_ | refine Vf ?_ | refine Vm ?_ | refine Ve ?_ | refine Vo ?_ | refine Vz ?_ | refine Vn ?_)
        exact ⟨(h + 1, j), (by repeat (first | exact trivial | refine ⟨rfl, ?_⟩)), ⟨e1, by dsimp only; omega, by dsimp only; omega, q3, .inr ⟨x, hx, of_decide_eq_true h5⟩, q5⟩, by simp only; omega⟩
      · repeat (first | refine Vx ?_ | (apply Ops_q; (case hon => exact Va); (case hd => rfl); (case hq => exact YlA)) | refine Vr ?_ | refine Vt ?_ | refine Vf ?_ | refine Vm ?_ | refine Ve ?_ | refine Vo ?_ | refine Vz ?_ | refine Vn ?_)
        exact ⟨(i, h), (by repeat (first | exact trivial | refine ⟨rfl, ?_⟩)), ⟨e1, q1, by dsimp only; omega, by dsimp only; omega, q4, .inr ⟨x, hx, of_decide_eq_false h5⟩⟩, by simp only; omega⟩
    · obtain rfl : i = j := by have := of_decide_eq_false hg; omega
      repeat (first | refine Vx ?_ | (apply Ops_q; (case hon => exact Va); (case hd => rfl); (case hq => exact YlA)) | refine Vr ?_ | refine Vt ?_ | refine Vf ?_ | refine Vm ?_ | refine Ve ?_ | refine Vo ?_ | refine Vz ?_ | refine Vn ?_)
      refine V_loop (fun s : Nat × List Nh => [(13, .int .i64 s.1), (10, .int .i64 i), (0, .slice (some ⟨g, 0, none⟩) n cap), (1, .int .i64 a), (2, .int .i64 m), (3, .int .i64 b), (4, .func (.func f) #[] #[])])
        (fun s w' => a ≤ s.1 ∧ s.1 + 1 ≤ i ∧ Mod (Blk1 g) w w' ∧ Dat w' base g n cap s.2 ∧ s.2.Perm L ∧ ∀ x, s.2[x]? = rotF (fun x => L[x]?) a (a + 1) (s.1 + 1) x) (fun s => i - s.1) (a, L) (by repeat (first | exact trivial | refine ⟨rfl, ?_⟩))
        ⟨Nat.le_refl _, by dsimp only; omega, .of_ext e1, hD.ext e1, .refl _, fun x => (rot_none (Nat.le_succ _) (Nat.le_refl _) (.inr rfl) x).symm⟩ ?_
      rintro ⟨k, M⟩ w3 ⟨r1, r2, m3, D3, hp, hf⟩
      dsimp only at r1 r2 D3 hp hf ⊢
      have hMl := D3.len
      repeat (first | refine Vx ?_ | (apply Ops_q; (case hon => exact Va); (case hd => rfl); (case hq => exact YlA)) | refine Vr ?_ | refine Vt ?_ | refine Vf ?_ | refine Vm ?_ | refine Ve ?_ | refine Vo ?_ | refine Vz ?_ | refine Vn ?_)
      refine V_cond rfl (fun hg2 => ?_) (fun hg2 => ?_)
      · replace hg2 := of_decide_eq_true hg2
        have hki : k + 1 < i := by omega
        clear hy
        obtain ⟨x, hx⟩ := D3.get (k := k) (by omega)
        obtain ⟨y, hy⟩ := D3.get (k := k + 1) (by omega)
        have hcx := D3.at hx
        have hcy := D3.at hy
        repeat (first | refine Vx ?_ | (apply Ops_q; (case hon => exact Va); (case hd => rfl); (case hq => exact YlA)) | refine Vt ?_ | refine Vf ?_ | refine Vm ?_ | refine Ve ?_ | refine Vo ?_ | refine Vz ?_ | refine Vn ?_)
        refine V_store (R := fun w' => Dat w' base g n cap (M.set k y) ∧ Mod (fun c => c = g) w3 w') 16 15 (fun _ _ he h => ⟨h.1.ext he, h.2.ext he⟩) (by kernel_rfl) rfl (by kernel_rfl) ?_
        repeat (first
          | (refine YsS.pure rfl rfl rfl rfl rfl (fun w_ => (by first | exact Yl_move rfl | exact Yl_pred rfl rfl (by omega) | exact Yl_arith_in rfl rfl rfl (by first | assumption | (simp only [InK]; omega)))) ?_)
          | (refine YsS.load rfl rfl rfl rfl rfl (by first | exact Yl_loadN rfl hcx inferInstance | exact Yl_loadN rfl hcy inferInstance) ?_))
        refine YsS.pure rfl rfl rfl rfl rfl (fun w_ => Yl_indexS (j := (k+1)) rfl rfl (by omega)) ?_
        repeat (first
          | (refine YsS.pure rfl rfl rfl rfl rfl (fun w_ => (by first | exact Yl_move rfl | exact Yl_pred rfl rfl (by omega) | exact Yl_arith_in rfl rfl rfl (by first | assumption | (simp only [InK]; omega)))) ?_)
          | (refine YsS.load rfl rfl rfl rfl rfl (by first | exact Yl_loadN rfl hcx inferInstance | exact Yl_loadN rfl hcy inferInstance) ?_))
        refine YsS.pure rfl rfl rfl rfl rfl (fun w_ => Yl_indexS (j := k) rfl rfl (by omega)) ?_
        repeat (first
          | (refine YsS.pure rfl rfl rfl rfl rfl (fun w_ => (by first | exact Yl_move rfl | exact Yl_pred rfl rfl (by omega) | exact Yl_arith_in rfl rfl rfl (by first | assumption | (simp only [InK]; omega)))) ?_)
          | (refine YsS.load rfl rfl rfl rfl rfl (by first | exact Yl_loadN rfl hcx inferInstance | exact Yl_loadN rfl hcy inferInstance) ?_))
        refine YsS.pure rfl rfl rfl rfl rfl (fun w_ => Yl_indexS (j := k) rfl rfl (by omega)) ?_
        refine YsS.nil rfl ⟨fun a_ ag_ w_ hw_ => storeDat_run (i := k) (v := y) rfl rfl rfl D3 (by omega) a_ ag_ w_ hw_, ?_⟩
        repeat (first
          | (refine YsS.pure rfl rfl rfl rfl rfl (fun w_ => (by first | exact Yl_move rfl | exact Yl_pred rfl rfl (by omega) | exact Yl_arith_in rfl rfl rfl (by first | assumption | (simp only [InK]; omega)))) ?_)
          | (refine YsS.load rfl rfl rfl rfl rfl (by first | exact Yl_loadN rfl hcx inferInstance | exact Yl_loadN rfl hcy inferInstance) ?_))
        refine YsS.nil rfl ?_
        rintro w4 ⟨D4, m4⟩
        repeat (first | refine Vx ?_ | (apply Ops_q; (case hon => exact Va); (case hd => rfl); (case hq => exact YlA)) | refine Vr ?_ | refine Vt ?_ | refine Vf ?_ | refine Vm ?_ | refine Ve ?_ | refine Vo ?_ | refine Vz ?_ | refine Vn ?_)
        (apply Ops_q; (case hon => (exact Va)); (case hd => rfl); (case hq => exact Yl_indexS (j := (k+1)) rfl rfl (by omega)))
        repeat (first | refine Vx ?_ | (apply Ops_q; (case hon => exact Va); (case hd => rfl); (case hq => exact YlA)) | refine Vr ?_ | refine Vt ?_ | refine Vf ?_ | refine Vm ?_ | refine Ve ?_ | refine Vo ?_ | refine Vz ?_ | refine Vn ?_)
        refine Ops_storeDat (i := k+1) (v := x) (by exact Va) rfl rfl rfl D4 (by omega) ?_
        intro w5 D5 g5
        have m5 : Mod (Blk1 g) w w5 := (m3.trans m4).grow g5 (fun b hb => .inl (by cases hb; rfl))
        have hsw : (M.set (k) y).set (k+1) x = swp M (k) (k+1) := by unfold swp; rw [hx, hy]
        rw [hsw] at D5
        repeat (first | refine Vx ?_ | (apply Ops_q; (case hon => exact Va); (case hd => rfl); (case hq => exact YlA)) | refine Vr ?_ | refine Vt ?_ | refine Vf ?_ | refine Vm ?_ | refine Ve ?_ | refine Vo ?_ | refine Vz ?_ | refine Vn ?_)
        refine ⟨(k + 1, swp M k (k + 1)), (by repeat (first | exact trivial | refine ⟨rfl, ?_⟩)), ⟨by dsimp only; omega, by dsimp only; omega, m5, D5, (swp_perm (by omega) (by omega)).trans hp, fun x => rot_l r1 hf (by omega) x⟩, by simp only; omega⟩
      · replace hg2 := of_decide_eq_false hg2
        have hki : k + 1 = i := by omega
        rw [hki] at hf
        subst hm
        repeat (first | refine Vx ?_ | (apply Ops_q; (case hon => exact Va); (case hd => rfl); (case hq => exact YlA)) | refine Vr ?_ | refine Vt ?_ | refine Vf ?_ | refine Vm ?_ | refine Ve ?_ | refine Vo ?_ | refine Vz ?_ | refine Vn ?_)
        refine ret0 (by first | exact .inl rfl | exact .inr rfl) rfl ?_
        refine Does_mk (fun w' he => ⟨rfl, M, D3.ext he, (Moved.rot hp hf (Nat.le_succ _) q1).wide (Nat.le_refl _) q3, ?_⟩) m3
        exact merge_left ho hB q1 q3 (q5.imp id fun ⟨x, hx, hlt⟩ => ⟨x, y, hx, hy, hlt⟩) (q4.imp id fun ⟨x, hx, hlt⟩ => ⟨x, y, hx, hy, hlt⟩) hf
  replace h1 := of_decide_eq_false h1
  repeat (first | refine Vx ?_ | (apply Ops_q; (case hon => exact Va); (case hd => rfl); (case hq => exact YlA)) | refine Vr ?_ | refine Vt ?_ | refine Vf ?_ | refine Vm ?_ | refine Ve ?_ | refine Vo ?_ | refine Vz ?_ | refine Vn ?_)
  refine V_cond rfl (fun h2 => ?_) (fun h2 => ?_)
  · have hbm : b = m + 1 := by have := of_decide_eq_true h2; omega
    obtain ⟨x, hx⟩ := hD.get (k := m) (by omega)
    repeat (first | refine Vx ?_ | (apply Ops_q; (case hon => exact Va); (case hd => rfl); (case hq => exact YlA)) | refine Vr ?_ | refine Vt ?_ | refine Vf ?_ | refine Vm ?_ | refine Ve ?_ | refine Vo ?_ | refine Vz ?_ | refine Vn ?_)
    refine V_loop (fun s : Nat × Nat => [(14, .int .i64 s.1), (15, .int .i64 s.2), (0, .slice (some ⟨g, 0, none⟩) n cap), (1, .int .i64 a), (2, .int .i64 m), (3, .int .i64 b), (4, .func (.func f) #[] #[])])
      (fun s w' => Ext w w' ∧ a ≤ s.1 ∧ s.1 ≤ s.2 ∧ s.2 ≤ m ∧ (s.1 = a ∨ ∃ y, L[s.1 - 1]? = some y ∧ ¬cf x y < 0) ∧ (s.2 = m ∨ ∃ y, L[s.2]? = some y ∧ cf x y < 0)) (fun s => s.2 - s.1) (a, m) (by repeat (first | exact trivial | refine ⟨rfl, ?_⟩))
      ⟨Ext.refl _, Nat.le_refl _, by dsimp only; omega, Nat.le_refl _, .inl rfl, .inl rfl⟩ ?_
    rintro ⟨i, j⟩ w1 ⟨e1, q1, q2, q3, q4, q5⟩
    dsimp only at q1 q2 q3 q4 q5 ⊢
    repeat (first | refine Vx ?_ | (apply Ops_q; (case hon => exact Va); (case hd => rfl); (case hq => exact YlA)) | refine Vr ?_ | refine Vt ?_ | refine Vf ?_ | refine Vm ?_ | refine Ve ?_ | refine Vo ?_ | refine Vz ?_ | refine Vn ?_)
    refine V_cond rfl (fun hg => ?_) (fun hg => ?_)
    · replace hg := of_decide_eq_true hg
      obtain ⟨h, hh⟩ : ∃ h : Nat, ((i : Int) + (j : Int)) / 2 = (h : Int) := ⟨(i + j) / 2, by omega⟩
      have hh2 : i ≤ h ∧ h < j := by omega
      obtain ⟨y, hy⟩ := hD.get (k := h) (by omega)
      have hcx := (hD.at hx).ext e1
      have hcy := (hD.at hy).ext e1
      repeat (first | refine Vx ?_ | (apply Ops_q; (case hon => exact Va); (case hd => rfl); (case hq => exact YlA)) | refine Vr ?_ | refine Vt ?_ | refine Vf ?_ | refine Vm ?_ | refine Ve ?_ | refine Vo ?_ | refine Vz ?_ | refine Vn ?_)
      rw [hh]
      repeat (first | refine Vx ?_ | (apply Ops_q; (case hon => exact Va); (case hd => rfl); (case hq => exact YlA)) | refine Vr ?_ | refine Vt ?_ | refine Vf ?_ | refine Vm ?_ | refine Ve ?_ | refine Vo ?_ | refine Vz ?_ | refine Vn ?_)
      (apply Ops_q; (case hon => (exact Va)); (case hd => rfl); (case hq => exact Yl_indexS (j := m) rfl rfl (by omega)))
      repeat (first | refine Vx ?_ | (apply Ops_q; (case hon => exact Va); (case hd => rfl); (case hq => exact YlA)) | refine Vr ?_ | refine Vt ?_ | refine Vf ?_ | refine Vm ?_ | refine Ve ?_ | refine Vo ?_ | refine Vz ?_ | refine Vn ?_)
      (apply Ops_q; (case hon => (exact Va)); (case hd => rfl); (case hq => exact Yl_indexS (j := h) rfl rfl (by omega)))
      repeat (first | refine Vx ?_ | (apply Ops_q; (case hon => exact Va); (case hd => rfl); (case hq => exact YlA)) | refine Vr ?_ | refine Vt ?_ | refine Vf ?_ | refine Vm ?_ | refine Ve ?_ | refine Vo ?_ | refine Vz ?_ | refine Vn ?_)
      (apply Ops_q; (case hon => first | exact on_none | exact on_guard rfl rfl); (case hd => rfl); (case hq => exact Yl_callv (first := []) (vs := [x.val, y.val]) (cap := []) rfl rfl (fun w_ e_ => hcf _ _ w_)))
      repeat (first | refine Vx ?_ | (apply Ops_q; (case hon => exact Va); (case hd => rfl); (case hq => exact YlA)) | refine Vr ?_ | refine Vt ?_ | refine Vf ?_ | refine Vm ?_ | refine Ve ?_ | refine Vo ?_ | refine Vz ?_ | refine Vn ?_)
      refine V_cond rfl (fun h5 => ?_) (fun h5 => ?_)
      · have h6 : ¬cf x y < 0 := by simpa using h5
        repeat (first | refine Vx ?_ | (apply Ops_q; (case hon => exact Va); (case hd => rfl); (case hq => exact YlA)) | refine Vr ?_ | refine Vt ?_ | refine Vf ?_ | refine Vm ?_ | refine Ve ?_ | refine Vo ?_ | refine Vz ?_ | refine Vn ?_)
        exact ⟨(h + 1, j), (by repeat (first | exact trivial | refine ⟨rfl, ?_⟩)), ⟨e1, by dsimp only; omega, by dsimp only; omega, q3, .inr ⟨y, hy, h6⟩, q5⟩, by simp only; omega⟩
      · have h6 : cf x y < 0 := by simpa using h5
        repeat (first | refine Vx ?_ | (apply Ops_q; (case hon => exact Va); (case hd => rfl); (case hq => exact YlA)) | refine Vr ?_ | refine Vt ?_ | refine Vf ?_ | refine Vm ?_ | refine Ve ?_ | refine Vo ?_ | refine Vz ?_ | refine Vn ?_)
        exact ⟨(i, h), (by repeat (first | exact trivial | refine ⟨rfl, ?_⟩)), ⟨e1, q1, by dsimp only; omega, by dsimp only; omega, q4, .inr ⟨y, hy, h6⟩⟩, by simp only; omega⟩
    · obtain rfl : i = j := by have := of_decide_eq_false hg; omega
      repeat (first | refine Vx ?_ | (apply Ops_q; (case hon => exact Va); (case hd => rfl); (case hq => exact YlA)) | refine Vr ?_ | refine Vt ?_ | refine Vf ?_ | refine Vm ?_ | refine Ve ?_ | refine Vo ?_ | refine Vz ?_ | refine Vn ?_)
      refine V_loop (fun s : Nat × List Nh => [(17, .int .i64 s.1), (14, .int .i64 i), (0, .slice (some ⟨g, 0, none⟩) n cap), (1, .int .i64 a), (2, .int .i64 m), (3, .int .i64 b), (4, .func (.func f) #[] #[])])
        (fun s w' => i ≤ s.1 ∧ s.1 ≤ m ∧ Mod (Blk1 g) w w' ∧ Dat w' base g n cap s.2 ∧ s.2.Perm L ∧ ∀ x, s.2[x]? = rotF (fun x => L[x]?) s.1 m (m + 1) x) (fun s => s.1) (m, L) (by repeat (first | exact trivial | refine ⟨rfl, ?_⟩))
        ⟨q3, Nat.le_refl _, .of_ext e1, hD.ext e1, .refl _, fun x => (rot_none (Nat.le_refl _) (Nat.le_succ _) (.inl rfl) x).symm⟩ ?_
      rintro ⟨k, M⟩ w3 ⟨r1, r2, m3, D3, hp, hf⟩
      dsimp only at r1 r2 D3 hp hf ⊢
      have hMl := D3.len
      repeat (first | refine Vx ?_ | (apply Ops_q; (case hon => exact Va); (case hd => rfl); (case hq => exact YlA)) | refine Vr ?_ | refine Vt ?_ | refine Vf ?_ | refine Vm ?_ | refine Ve ?_ | refine Vo ?_ | refine Vz ?_ | refine Vn ?_)
      refine V_cond rfl (fun hg2 => ?_) (fun hg2 => ?_)
      · replace hg2 := of_decide_eq_true hg2
        obtain ⟨p, rfl⟩ : ∃ p, k = p + 1 := ⟨k - 1, by omega⟩
        have hs1 : ((p + 1 : Nat) : Int) - 1 = (p : Int) := by omega
        clear hx
        obtain ⟨x, hx⟩ := D3.get (k := p + 1) (by omega)
        obtain ⟨y, hy⟩ := D3.get (k := p) (by omega)
        have hcx := D3.at hx
        have hcy := D3.at hy
        repeat (first | refine Vx ?_ | (apply Ops_q; (case hon => exact Va); (case hd => rfl); (case hq => exact YlA)) | refine Vt ?_ | refine Vf ?_ | refine Vm ?_ | refine Ve ?_ | refine Vo ?_ | refine Vz ?_ | refine Vn ?_)
        refine V_store (R := fun w' => Dat w' base g n cap (M.set (p + 1) y) ∧ Mod (fun c => c = g) w3 w') 16 15 (fun _ _ he h => ⟨h.1.ext he, h.2.ext he⟩) (by kernel_rfl) rfl (by kernel_rfl) ?_
        repeat (first
          | (refine YsS.pure rfl rfl rfl rfl rfl (fun w_ => (by first | exact Yl_move rfl | exact Yl_pred rfl rfl (by omega) | exact Yl_arith_in rfl rfl rfl (by first | assumption | (simp only [InK]; omega)))) ?_)
          | (refine YsS.load rfl rfl rfl rfl rfl (by first | exact Yl_loadN rfl hcx inferInstance | exact Yl_loadN rfl hcy inferInstance) ?_))
        refine YsS.pure rfl rfl rfl rfl rfl (fun w_ => Yl_indexS (j := p) rfl rfl (by omega)) ?_
        repeat (first
          | (refine YsS.pure rfl rfl rfl rfl rfl (fun w_ => (by first | exact Yl_move rfl | exact Yl_pred rfl rfl (by omega) | exact Yl_arith_in rfl rfl rfl (by first | assumption | (simp only [InK]; omega)))) ?_)
          | (refine YsS.load rfl rfl rfl rfl rfl (by first | exact Yl_loadN rfl hcx inferInstance | exact Yl_loadN rfl hcy inferInstance) ?_))
        refine YsS.pure rfl rfl rfl rfl rfl (fun w_ => Yl_indexS (j := (p+1)) rfl rfl (by omega)) ?_
        repeat (first
          | (refine YsS.pure rfl rfl rfl rfl rfl (fun w_ => (by first | exact Yl_move rfl | exact Yl_pred rfl rfl (by omega) | exact Yl_arith_in rfl rfl rfl (by first | assumption | (simp only [InK]; omega)))) ?_)
          | (refine YsS.load rfl rfl rfl rfl rfl (by first | exact Yl_loadN rfl hcx inferInstance | exact Yl_loadN rfl hcy inferInstance) ?_))
        refine YsS.pure rfl rfl rfl rfl rfl (fun w_ => Yl_indexS (j := (p+1)) rfl rfl (by omega)) ?_
        refine YsS.nil rfl ⟨fun a_ ag_ w_ hw_ => storeDat_run (i := p+1) (v := y) rfl rfl rfl D3 (by omega) a_ ag_ w_ hw_, ?_⟩
        repeat (first
          | (refine YsS.pure rfl rfl rfl rfl rfl (fun w_ => (by first | exact Yl_move rfl | exact Yl_pred rfl rfl (by omega) | exact Yl_arith_in rfl rfl rfl (by first | assumption | (simp only [InK]; omega)))) ?_)
          | (refine YsS.load rfl rfl rfl rfl rfl (by first | exact Yl_loadN rfl hcx inferInstance | exact Yl_loadN rfl hcy inferInstance) ?_))
        refine YsS.nil rfl ?_
        rintro w4 ⟨D4, m4⟩
        repeat (first | refine Vx ?_ | (apply Ops_q; (case hon => exact Va); (case hd => rfl); (case hq => exact YlA)) | refine Vr ?_ | refine Vt ?_ | refine Vf ?_ | refine Vm ?_ | refine Ve ?_ | refine Vo ?_ | refine Vz ?_ | refine Vn ?_)
        (apply Ops_q; (case hon => (exact Va)); (case hd => rfl); (case hq => exact Yl_indexS (j := (p)) rfl rfl (by omega)))
        repeat (first | refine Vx ?_ | (apply Ops_q; (case hon => exact Va); (case hd => rfl); (case hq => exact YlA)) | refine Vr ?_ | refine Vt ?_ | refine Vf ?_ | refine Vm ?_ | refine Ve ?_ | refine Vo ?_ | refine Vz ?_ | refine Vn ?_)
        refine Ops_storeDat (i := p) (v := x) (by exact Va) rfl rfl rfl D4 (by omega) ?_
        intro w5 D5 g5
        have m5 : Mod (Blk1 g) w w5 := (m3.trans m4).grow g5 (fun b hb => .inl (by cases hb; rfl))
        have hsw : (M.set (p+1) y).set (p) x = swp M (p+1) (p) := by unfold swp; rw [hx, hy]
        rw [hsw] at D5
        repeat (first | refine Vx ?_ | (apply Ops_q; (case hon => exact Va); (case hd => rfl); (case hq => exact YlA)) | refine Vr ?_ | refine Vt ?_ | refine Vf ?_ | refine Vm ?_ | refine Ve ?_ | refine Vo ?_ | refine Vz ?_ | refine Vn ?_)
        rw [hs1]
        have hrr : ∀ x, (swp M (p + 1) p)[x]? = rotF (fun x => L[x]?) p m (m + 1) x := rot_r (L := L) (L' := M) (k := p + 1) (by omega) r2 hf (by omega)
        refine ⟨(p, swp M (p + 1) p), (by repeat (first | exact trivial | refine ⟨rfl, ?_⟩)), ⟨by dsimp only; omega, by dsimp only; omega, m5, D5, (swp_perm (by omega) (by omega)).trans hp, hrr⟩, by simp only; omega⟩
      · replace hg2 := of_decide_eq_false hg2
        obtain rfl : k = i := by omega
        subst hbm
        repeat (first | refine Vx ?_ | (apply Ops_q; (case hon => exact Va); (case hd => rfl); (case hq => exact YlA)) | refine Vr ?_ | refine Vt ?_ | refine Vf ?_ | refine Vm ?_ | refine Ve ?_ | refine Vo ?_ | refine Vz ?_ | refine Vn ?_)
        refine ret0 (by first | exact .inl rfl | exact .inr rfl) rfl ?_
        refine Does_mk (fun w' he => ⟨rfl, M, D3.ext he, (Moved.rot hp hf q3 (Nat.le_succ _)).wide q1 (Nat.le_refl _), ?_⟩) m3
        exact merge_right ho hA q1 q3 (q4.imp id fun ⟨y, hy, hlt⟩ => ⟨x, y, hx, hy, hlt⟩) (q5.imp id fun ⟨y, hy, hlt⟩ => ⟨x, y, hx, hy, hlt⟩) hf
  replace h2 := of_decide_eq_false h2
  obtain ⟨c, hc⟩ : ∃ c : Nat, ((a : Int) + (b : Int)) / 2 = (c : Int) := ⟨(a + b) / 2, by omega⟩
  have hc2 : a < c ∧ c < b := by omega
  repeat (first | refine Vx ?_ | (apply Ops_q; (case hon => exact Va); (case hd => rfl); (case hq => exact YlA)) | refine Vr ?_ | refine Vt ?_ | refine Vf ?_ | refine Vm ?_ | refine Ve ?_ | refine Vo ?_ | refine Vz ?_ | refine Vn ?_)
  rw [hc]
  -- the range in which the rotation begins, for either half
  obtain ⟨s0, r0, hs0, hr0, hsr, hsl, hrm, hrc, hsb, hmr⟩ : ∃ s0 r0 : Nat, (s0 = if c < m then c + m - b else a) ∧ (r0 = if c < m then c else m) ∧ s0 ≤ r0 ∧ a ≤ s0 ∧ r0 ≤ m ∧ r0 ≤ c ∧ c + m ≤ s0 + b ∧ m ≤ c + m - r0 := by
    refine ⟨_, _, rfl, rfl, ?_⟩
    split <;> omega
  refine V_meet1 (fun _ : Unit => [(18, .int .i64 c), (19, .int .i64 ((c : Int) + m)), (20, .int .i64 s0), (21, .int .i64 r0), (0, .slice (some ⟨g, 0, none⟩) n cap), (1, .int .i64 a), (2, .int .i64 m), (3, .int .i64 b), (4, .func (.func f) #[] #[])]) (fun _ w' => w = w') ?_ ?_
  · refine V_cond rfl (fun hg => ?_) (fun hg => ?_)
    · replace hg := of_decide_eq_true hg
      rw [if_pos (by omega)] at hs0 hr0
      have e20 : (c : Int) + (m : Int) - (b : Int) = (s0 : Int) := by omega
      subst hr0
      repeat (first | refine Vx ?_ | (apply Ops_q; (case hon => exact Va); (case hd => rfl); (case hq => exact YlA)) | refine Vr ?_ | refine Vt ?_ | refine Vf ?_ | refine Vm ?_ | refine Ve ?_ | refine Vo ?_ | refine Vz ?_ | refine Vn ?_)
      rw [e20]
      exact ⟨(), (by repeat (first | exact trivial | refine ⟨rfl, ?_⟩)), rfl⟩
    · replace hg := of_decide_eq_false hg
      rw [if_neg (by omega)] at hs0 hr0
      subst hs0; subst hr0
      repeat (first | refine Vx ?_ | (apply Ops_q; (case hon => exact Va); (case hd => rfl); (case hq => exact YlA)) | refine Vr ?_ | refine Vt ?_ | refine Vf ?_ | refine Vm ?_ | refine Ve ?_ | refine Vo ?_ | refine Vz ?_ | refine Vn ?_)
      exact ⟨(), (by repeat (first | exact trivial | refine ⟨rfl, ?_⟩)), rfl⟩
  rintro _ _ rfl
  repeat (first | refine Vx ?_ | (apply Ops_q; (case hon => exact Va); (case hd => rfl); (case hq => exact YlA)) | refine Vr ?_ | refine Vt ?_ | refine Vf ?_ | refine Vm ?_ | refine Ve ?_ | refine Vo ?_ | refine Vz ?_ | refine Vn ?_)
  refine V_loop (fun s : Nat × Nat => [(20, .int .i64 s.1), (21, .int .i64 s.2), (22, .int .i64 ((c : Int) + m - 1)), (18, .int .i64 c), (19, .int .i64 ((c : Int) + m)), (0, .slice (some ⟨g, 0, none⟩) n cap), (1, .int .i64 a), (2, .int .i64 m), (3, .int .i64 b), (4, .func (.func f) #[] #[])])
    (fun s w' => Ext w w' ∧ s0 ≤ s.1 ∧ s.1 ≤ s.2 ∧ s.2 ≤ r0 ∧ (s.1 = s0 ∨ ∃ x y, L[c + m - s.1]? = some x ∧ L[s.1 - 1]? = some y ∧ ¬cf x y < 0) ∧ (s.2 = r0 ∨ ∃ x y, L[c + m - 1 - s.2]? = some x ∧ L[s.2]? = some y ∧ cf x y < 0)) (fun s => s.2 - s.1) (s0, r0) (by repeat (first | exact trivial | refine ⟨rfl, ?_⟩))
    ⟨Ext.refl _, Nat.le_refl _, hsr, Nat.le_refl _, .inl rfl, .inl rfl⟩ ?_
  rintro ⟨s, r⟩ w1 ⟨e1, q1, q2, q3, q4, q5⟩
  dsimp only at q1 q2 q3 q4 q5 ⊢
  repeat (first | refine Vx ?_ | (apply Ops_q; (case hon => exact Va); (case hd => rfl); (case hq => exact YlA)) | refine Vr ?_ | refine Vt ?_ | refine Vf ?_ | refine Vm ?_ | refine Ve ?_ | refine Vo ?_ | refine Vz ?_ | refine Vn ?_)
  refine V_cond rfl (fun hg => ?_) (fun hg => ?_)
  · replace hg := of_decide_eq_true hg
    obtain ⟨h, hh⟩ : ∃ h : Nat, ((s : Int) + (r : Int)) / 2 = (h : Int) := ⟨(s + r) / 2, by omega⟩
    have hh2 : s ≤ h ∧ h < r := by omega
    have hk : (c : Int) + (m : Int) - 1 - (h : Int) = ((c + m - 1 - h : Nat) : Int) := by omega
    obtain ⟨x, hx⟩ := hD.get (k := c + m - 1 - h) (by omega)
    obtain ⟨y, hy⟩ := hD.get (k := h) (by omega)
    have hcx := (hD.at hx).ext e1
    have hcy := (hD.at hy).ext e1
    repeat (first | refine Vx ?_ | (apply Ops_q; (case hon => exact Va); (case hd => rfl); (case hq => exact YlA)) | refine Vr ?_ | refine Vt ?_ | refine Vf ?_ | refine Vm ?_ | refine Ve ?_ | refine Vo ?_ | refine Vz ?_ | refine Vn ?_)
    rw [hh]
    repeat (first | refine Vx ?_ | (apply Ops_q; (case hon => exact Va); (case hd => rfl); (case hq => exact YlA)) | refine Vr ?_ | refine Vt ?_ | refine Vf ?_ | refine Vm ?_ | refine Ve ?_ | refine Vo ?_ | refine Vz ?_ | refine Vn ?_)
    rw [hk]
    (apply Ops_q; (case hon => (exact Va)); (case hd => rfl); (case hq => exact Yl_indexS (j := (c+m-1-h)) rfl rfl (by omega)))
    repeat (first | refine Vx ?_ | (apply Ops_q; (case hon => exact Va); (case hd => rfl); (case hq => exact YlA)) | refine Vr ?_ | refine Vt ?_ | refine Vf ?_ | refine Vm ?_ | refine Ve ?_ | refine Vo ?_ | refine Vz ?_ | refine Vn ?_)
    (apply Ops_q; (case hon => (exact Va)); (case hd => rfl); (case hq => exact Yl_indexS (j := h) rfl rfl (by omega)))
    repeat (first | refine Vx ?_ | (apply Ops_q; (case hon => exact Va); (case hd => rfl); (case hq => exact YlA)) | refine Vr ?_ | refine Vt ?_ | refine Vf ?_ | refine Vm ?_ | refine Ve ?_ | refine Vo ?_ | refine Vz ?_ | refine Vn ?_)
    (apply Ops_q; (case hon => first | exact on_none | exact on_guard rfl rfl); (case hd => rfl); (case hq => exact Yl_callv (first := []) (vs := [x.val, y.val]) (cap := []) rfl rfl (fun w_ e_ => hcf _ _ w_)))
    repeat (first | refine Vx ?_ | (apply Ops_q; (case hon => exact Va); (case hd => rfl); (case hq => exact YlA)) | refine Vr ?_ | refine Vt ?_ | refine Vf ?_ | refine Vm ?_ | refine Ve ?_ | refine Vo ?_ | refine Vz ?_ | refine Vn ?_)
    refine V_cond rfl (fun h5 => ?_) (fun h5 => ?_)
    · have h6 : ¬cf x y < 0 := by simpa using h5
      repeat (first | refine Vx ?_ | (apply Ops_q; (case hon => exact Va); (case hd => rfl); (case hq => exact YlA)) | refine Vr ?_ | refine Vt ?_ | refine Vf ?_ | refine Vm ?_ | refine Ve ?_ | refine Vo ?_ | refine Vz ?_ | refine Vn ?_)
      exact ⟨(h + 1, r), (by repeat (first | exact trivial | refine ⟨rfl, ?_⟩)), ⟨e1, by dsimp only; omega, by dsimp only; omega, q3, .inr ⟨x, y, by rw [show c + m - (h + 1) = c + m - 1 - h by omega]; exact hx, hy, h6⟩, q5⟩, by simp only; omega⟩
    · have h6 : cf x y < 0 := by simpa using h5
      repeat (first | refine Vx ?_ | (apply Ops_q; (case hon => exact Va); (case hd => rfl); (case hq => exact YlA)) | refine Vr ?_ | refine Vt ?_ | refine Vf ?_ | refine Vm ?_ | refine Ve ?_ | refine Vo ?_ | refine Vz ?_ | refine Vn ?_)
      exact ⟨(s, h), (by repeat (first | exact trivial | refine ⟨rfl, ?_⟩)), ⟨e1, q1, by dsimp only; omega, by dsimp only; omega, q4, .inr ⟨x, y, hx, hy, h6⟩⟩, by simp only; omega⟩
  obtain rfl : s = r := by have := of_decide_eq_false hg; omega
  obtain ⟨e, he⟩ : ∃ e : Nat, e = c + m - s := ⟨_, rfl⟩
  have he2 : (c : Int) + (m : Int) - (s : Int) = (e : Int) := by omega
  have hme : m ≤ e := by omega
  have heb : e ≤ b := by omega
  have hmid : s + (e - m) = c := by omega
  have hlo : s = a ∨ e = b ∨ ∃ x y, L[e]? = some x ∧ L[s - 1]? = some y ∧ ¬cf x y < 0 := by
    rcases q4 with q4 | q4
    · rw [hs0] at q4
      split at q4 <;> omega
    · rw [← he] at q4; exact .inr (.inr q4)
  have hhi : s = m ∨ e = m ∨ ∃ x y, L[e - 1]? = some x ∧ L[s]? = some y ∧ cf x y < 0 := by
    rcases q5 with q5 | q5
    · rw [hr0] at q5
      split at q5 <;> omega
    · rw [show c + m - 1 - s = e - 1 by omega] at q5; exact .inr (.inr q5)
  clear q4 q5 hs0 hr0
  -- the rotation
  repeat (first | refine Vx ?_ | (apply Ops_q; (case hon => exact Va); (case hd => rfl); (case hq => exact YlA)) | refine Vr ?_ | refine Vt ?_ | refine Vf ?_ | refine Vm ?_ | refine Ve ?_ | refine Vo ?_ | refine Vz ?_ | refine Vn ?_)
  rw [he2]
  refine Ops_meet [(185, .bool (decide ((s : Int) < (m : Int)) && decide ((m : Int) < (e : Int)))), (18, .int .i64 c), (20, .int .i64 s), (24, .int .i64 e), (0, .slice (some ⟨g, 0, none⟩) n cap), (1, .int .i64 a), (2, .int .i64 m), (3, .int .i64 b), (4, .func (.func f) #[] #[])] ?_ ?_
  · repeat (first | refine Vx ?_ | (apply Ops_q; (case hon => exact Va); (case hd => rfl); (case hq => exact YlA)) | refine Vr ?_ | refine Vt ?_ | refine Vf ?_ | refine Vm ?_ | refine Ve ?_ | refine Vo ?_ | refine Vz ?_ | refine Vn ?_)
    refine Ops_split rfl rfl (fun hq => ?_) (fun hq => ?_)
    · repeat (first | refine Vx ?_ | (apply Ops_q; (case hon => exact Va); (case hd => rfl); (case hq => exact YlA)) | refine Vr ?_ | refine Vt ?_ | refine Vf ?_ | refine Vm ?_ | refine Ve ?_ | refine Vo ?_ | refine Vz ?_ | refine Vn ?_)
      refine ⟨⟨?_, (by repeat (first | exact trivial | refine ⟨rfl, ?_⟩))⟩, rfl⟩
      rw [hq]; exact rfl
    · repeat (first | refine Vx ?_ | (apply Ops_q; (case hon => exact Va); (case hd => rfl); (case hq => exact YlA)) | refine Vr ?_ | refine Vt ?_ | refine Vf ?_ | refine Vm ?_ | refine Ve ?_ | refine Vo ?_ | refine Vz ?_ | refine Vn ?_)
      refine ⟨⟨?_, (by repeat (first | exact trivial | refine ⟨rfl, ?_⟩))⟩, rfl⟩
      rw [hq]; exact rfl
  repeat (first | refine Vx ?_ | (apply Ops_q; (case hon => exact Va); (case hd => rfl); (case hq => exact YlA)) | refine Vr ?_ | refine Vt ?_ | refine Vf ?_ | refine Vm ?_ | refine Ve ?_ | refine Vo ?_ | refine Vz ?_ | refine Vn ?_)
  refine V_meet1 (fun _ : List Nh => [(18, .int .i64 c), (20, .int .i64 s), (24, .int .i64 e), (0, .slice (some ⟨g, 0, none⟩) n cap), (1, .int .i64 a), (2, .int .i64 m), (3, .int .i64 b), (4, .func (.func f) #[] #[])]) (fun L1 w' => Mod (Blk1 g) w w' ∧ Dat w' base g n cap L1 ∧ L1.Perm L ∧ ∀ x, L1[x]? = rotF (fun x => L[x]?) s m e x) ?_ ?_
  · refine V_cond rfl (fun hq => ?_) (fun hq => ?_)
    · rw [Bool.and_eq_true, decide_eq_true_eq, decide_eq_true_eq] at hq
      repeat (first | refine Vx ?_ | (apply Ops_q; (case hon => exact Va); (case hd => rfl); (case hq => exact YlA)) | refine Vr ?_ | refine Vt ?_ | refine Vf ?_ | refine Vm ?_ | refine Ve ?_ | refine Vo ?_ | refine Vz ?_ | refine Vn ?_)
      refine Ops_callM (S := Blk1 g) (R := fun _ => DatR base g n cap (fun L' => L'.Perm L ∧ ∀ x, L'[x]? = rotF (fun x => L[x]?) s m e x)) (by exact Va) rfl rfl (fun w_ e_ => rotate_v L s m e w_ (hD.ext (e1.trans e_)) hn (by omega) (by omega) (by omega)) ?_
      intro r w4 w0_ e0 m4 hR
      obtain ⟨rfl, M', D4, hp4, hf4⟩ := hR
      repeat (first | refine Vx ?_ | (apply Ops_q; (case hon => exact Va); (case hd => rfl); (case hq => exact YlA)) | refine Vr ?_ | refine Vt ?_ | refine Vf ?_ | refine Vm ?_ | refine Ve ?_ | refine Vo ?_ | refine Vz ?_ | refine Vn ?_)
      exact ⟨M', (by repeat (first | exact trivial | refine ⟨rfl, ?_⟩)), (Mod.of_ext (e1.trans e0)).trans m4, D4, hp4, hf4⟩
    · have hq2 : s = m ∨ m = e := by
        rcases Bool.and_eq_false_iff.1 hq with h | h
        · have := of_decide_eq_false h; omega
        · have := of_decide_eq_false h; omega
      repeat (first | refine Vx ?_ | (apply Ops_q; (case hon => exact Va); (case hd => rfl); (case hq => exact YlA)) | refine Vr ?_ | refine Vt ?_ | refine Vf ?_ | refine Vm ?_ | refine Ve ?_ | refine Vo ?_ | refine Vz ?_ | refine Vn ?_)
      exact ⟨L, (by repeat (first | exact trivial | refine ⟨rfl, ?_⟩)), .of_ext e1, hD.ext e1, .refl _, fun x => (rot_none (by omega) hme hq2 x).symm⟩
  rintro L1 w2 ⟨m2, D2, hp2, hf2⟩
  obtain ⟨a1, a2, a3, a4, a5⟩ := merge_rot ho hA hB (by omega) (by omega) hme heb hlo hhi hf2
  have hM2 := (Moved.rot hp2 hf2 (by omega) hme).wide (a' := a) (b' := b) (by omega) heb
  rw [hmid] at a2 a3 a5
  clear hA hB hlo hhi hf2 hp2 hD hLl e1
  -- the first half
  repeat (first | refine Vx ?_ | (apply Ops_q; (case hon => exact Va); (case hd => rfl); (case hq => exact YlA)) | refine Vr ?_ | refine Vt ?_ | refine Vf ?_ | refine Vm ?_ | refine Ve ?_ | refine Vo ?_ | refine Vz ?_ | refine Vn ?_)
  refine Ops_meet [(199, .bool (decide ((a : Int) < (s : Int)) && decide ((s : Int) < (c : Int)))), (18, .int .i64 c), (20, .int .i64 s), (24, .int .i64 e), (0, .slice (some ⟨g, 0, none⟩) n cap), (1, .int .i64 a), (2, .int .i64 m), (3, .int .i64 b), (4, .func (.func f) #[] #[])] ?_ ?_
  · repeat (first | refine Vx ?_ | (apply Ops_q; (case hon => exact Va); (case hd => rfl); (case hq => exact YlA)) | refine Vr ?_ | refine Vt ?_ | refine Vf ?_ | refine Vm ?_ | refine Ve ?_ | refine Vo ?_ | refine Vz ?_ | refine Vn ?_)
    refine Ops_split rfl rfl (fun hq => ?_) (fun hq => ?_)
    · repeat (first | refine Vx ?_ | (apply Ops_q; (case hon => exact Va); (case hd => rfl); (case hq => exact YlA)) | refine Vr ?_ | refine Vt ?_ | refine Vf ?_ | refine Vm ?_ | refine Ve ?_ | refine Vo ?_ | refine Vz ?_ | refine Vn ?_)
      refine ⟨⟨?_, (by repeat (first | exact trivial | refine ⟨rfl, ?_⟩))⟩, rfl⟩
      rw [hq]; exact rfl
    · repeat (first | refine Vx ?_ | (apply Ops_q; (case hon => exact Va); (case hd => rfl); (case hq => exact YlA)) | refine Vr ?_ | refine Vt ?_ | refine Vf ?_ | refine Vm ?_ | refine Ve ?_ | refine Vo ?_ | refine Vz ?_ | refine Vn ?_)
      refine ⟨⟨?_, (by repeat (first | exact trivial | refine ⟨rfl, ?_⟩))⟩, rfl⟩
      rw [hq]; exact rfl
  repeat (first | refine Vx ?_ | (apply Ops_q; (case hon => exact Va); (case hd => rfl); (case hq => exact YlA)) | refine Vr ?_ | refine Vt ?_ | refine Vf ?_ | refine Vm ?_ | refine Ve ?_ | refine Vo ?_ | refine Vz ?_ | refine Vn ?_)
  refine V_meet1 (fun _ : List Nh => [(18, .int .i64 c), (20, .int .i64 s), (24, .int .i64 e), (0, .slice (some ⟨g, 0, none⟩) n cap), (1, .int .i64 a), (2, .int .i64 m), (3, .int .i64 b), (4, .func (.func f) #[] #[])]) (fun M w' => Mod (Blk1 g) w w' ∧ Dat w' base g n cap M ∧ Moved L1 M a c ∧ Asc cf M a c) ?_ ?_
  · refine V_cond rfl (fun hq => ?_) (fun hq => ?_)
    · rw [Bool.and_eq_true, decide_eq_true_eq, decide_eq_true_eq] at hq
      repeat (first | refine Vx ?_ | (apply Ops_q; (case hon => exact Va); (case hd => rfl); (case hq => exact YlA)) | refine Vr ?_ | refine Vt ?_ | refine Vf ?_ | refine Vm ?_ | refine Ve ?_ | refine Vo ?_ | refine Vz ?_ | refine Vn ?_)
      refine Ops_callM (S := Blk1 g) (R := fun _ => DatR base g n cap (fun L' => Moved L1 L' a c ∧ Asc cf L' a c)) (by exact Va) rfl rfl (fun w_ e_ => ih L1 a s c w_ (by omega) (D2.ext e_) (by omega) (by omega) (by omega) a1 a2) ?_
      intro r w4 w0_ e0 m4 hR
      obtain ⟨rfl, M', D4, hp4, hf4⟩ := hR
      repeat (first | refine Vx ?_ | (apply Ops_q; (case hon => exact Va); (case hd => rfl); (case hq => exact YlA)) | refine Vr ?_ | refine Vt ?_ | refine Vf ?_ | refine Vm ?_ | refine Ve ?_ | refine Vo ?_ | refine Vz ?_ | refine Vn ?_)
      exact ⟨M', (by repeat (first | exact trivial | refine ⟨rfl, ?_⟩)), (m2.ext e0).trans m4, D4, hp4, hf4⟩
    · have hq2 : s = a ∨ s = c := by
        rcases Bool.and_eq_false_iff.1 hq with h | h
        · have := of_decide_eq_false h; omega
        · have := of_decide_eq_false h; omega
      repeat (first | refine Vx ?_ | (apply Ops_q; (case hon => exact Va); (case hd => rfl); (case hq => exact YlA)) | refine Vr ?_ | refine Vt ?_ | refine Vf ?_ | refine Vm ?_ | refine Ve ?_ | refine Vo ?_ | refine Vz ?_ | refine Vn ?_)
      refine ⟨L1, (by repeat (first | exact trivial | refine ⟨rfl, ?_⟩)), m2, D2, Moved.refl .., ?_⟩
      rcases hq2 with hq2 | hq2
      · rw [← hq2]; exact a2
      · rw [← hq2]; exact a1
  rintro M w3 ⟨m3, D3, hM3, b1⟩
  have b3 : Asc cf M c e := a3.same fun k h1 h2 => hM3.out k (by omega)
  have b4 : Asc cf M e b := a4.same fun k h1 h2 => hM3.out k (by omega)
  have b5 := a5.moved hM3 (Nat.le_refl _)
  have hM3' := hM2.trans (hM3.wide (a' := a) (b' := b) (Nat.le_refl _) (by omega))
  clear a1 a2 a3 a4 a5 D2 m2 hM2 hM3
  -- the second half
  repeat (first | refine Vx ?_ | (apply Ops_q; (case hon => exact Va); (case hd => rfl); (case hq => exact YlA)) | refine Vr ?_ | refine Vt ?_ | refine Vf ?_ | refine Vm ?_ | refine Ve ?_ | refine Vo ?_ | refine Vz ?_ | refine Vn ?_)
  refine Ops_meet [(213, .bool (decide ((c : Int) < (e : Int)) && decide ((e : Int) < (b : Int)))), (18, .int .i64 c), (20, .int .i64 s), (24, .int .i64 e), (0, .slice (some ⟨g, 0, none⟩) n cap), (1, .int .i64 a), (2, .int .i64 m), (3, .int .i64 b), (4, .func (.func f) #[] #[])] ?_ ?_
  · repeat (first | refine Vx ?_ | (apply Ops_q; (case hon => exact Va); (case hd => rfl); (case hq => exact YlA)) | refine Vr ?_ | refine Vt ?_ | refine Vf ?_ | refine Vm ?_ | refine Ve ?_ | refine Vo ?_ | refine Vz ?_ | refine Vn ?_)
    refine Ops_split rfl rfl (fun hq => ?_) (fun hq => ?_)
    · repeat (first | refine Vx ?_ | (apply Ops_q; (case hon => exact Va); (case hd => rfl); (case hq => exact YlA)) | refine Vr ?_ | refine Vt ?_ | refine Vf ?_ | refine Vm ?_ | refine Ve ?_ | refine Vo ?_ | refine Vz ?_ | refine Vn ?_)
      refine ⟨⟨?_, (by repeat (first | exact trivial | refine ⟨rfl, ?_⟩))⟩, rfl⟩
      rw [hq]; exact rfl
    · repeat (first | refine Vx ?_ | (apply Ops_q; (case hon => exact Va); (case hd => rfl); (case hq => exact YlA)) | refine Vr ?_ | refine Vt ?_ | refine Vf ?_ | refine Vm ?_ | refine Ve ?_ | refine Vo ?_ | refine Vz ?_ | refine Vn ?_)
      refine ⟨⟨?_, (by repeat (first | exact trivial | refine ⟨rfl, ?_⟩))⟩, rfl⟩
      rw [hq]; exact rfl
  repeat (first | refine Vx ?_ | (apply Ops_q; (case hon => exact Va); (case hd => rfl); (case hq => exact YlA)) | refine Vr ?_ | refine Vt ?_ | refine Vf ?_ | refine Vm ?_ | refine Ve ?_ | refine Vo ?_ | refine Vz ?_ | refine Vn ?_)
  refine V_cond rfl (fun hq => ?_) (fun hq => ?_)
  · rw [Bool.and_eq_true, decide_eq_true_eq, decide_eq_true_eq] at hq
    repeat (first | refine Vx ?_ | (apply Ops_q; (case hon => exact Va); (case hd => rfl); (case hq => exact YlA)) | refine Vr ?_ | refine Vt ?_ | refine Vf ?_ | refine Vm ?_ | refine Ve ?_ | refine Vo ?_ | refine Vz ?_ | refine Vn ?_)
    refine Ops_callM (S := Blk1 g) (R := fun _ => DatR base g n cap (fun L' => Moved M L' c b ∧ Asc cf L' c b)) (by exact Va) rfl rfl (fun w_ e_ => ih M c e b w_ (by omega) (D3.ext e_) (by omega) (by omega) hb b3 b4) ?_
    intro r w4 w0_ e0 m4 hR
    obtain ⟨rfl, M', D4, hp4, hf4⟩ := hR
    repeat (first | refine Vx ?_ | (apply Ops_q; (case hon => exact Va); (case hd => rfl); (case hq => exact YlA)) | refine Vr ?_ | refine Vt ?_ | refine Vf ?_ | refine Vm ?_ | refine Ve ?_ | refine Vo ?_ | refine Vz ?_ | refine Vn ?_)
    refine ret0 (by first | exact .inl rfl | exact .inr rfl) rfl ?_
    refine Does_mk (fun w' he => ⟨rfl, M', D4.ext he, hM3'.trans (hp4.wide (by omega) (Nat.le_refl _)), ?_⟩) ((m3.ext e0).trans m4)
    exact Asc.join (b1.same fun k h1 h2 => hp4.out k (by omega)) hf4 (b5.moved' hp4 (Nat.le_refl _))
  · have hq2 : e = c ∨ e = b := by
      rcases Bool.and_eq_false_iff.1 hq with h | h
      · have := of_decide_eq_false h; omega
      · have := of_decide_eq_false h; omega
    repeat (first | refine Vx ?_ | (apply Ops_q; (case hon => exact Va); (case hd => rfl); (case hq => exact YlA)) | refine Vr ?_ | refine Vt ?_ | refine Vf ?_ | refine Vm ?_ | refine Ve ?_ | refine Vo ?_ | refine Vz ?_ | refine Vn ?_)
    refine ret0 (by first | exact .inl rfl | exact .inr rfl) rfl ?_
    refine Does_mk (fun w' he => ⟨rfl, M, D3.ext he, hM3', ?_⟩) m3
    refine Asc.join b1 ?_ b5
    rcases hq2 with hq2 | hq2
    · rw [← hq2]; exact b4
    · rw [← hq2]; exact b3
end
end Go.Proofs.Ytkdjbddjblahkaa

/-
  Stable sorting with a function that compares: the walks of stable and SortStableFunc.
  Conditions: the list is one's own, and not too long for a machine.
-/
namespace Go.Proofs.Ytkdjbddjblahkaa
open Go.RowKit

section
variable {base g n cap : Nat} {f : FuncId} [TFun Try.prog f] {cf : Nh → Nh → Int}
set_option maxHeartbeats 2000000 in
theorem stable_v (ho : Ord cf) (hcf : ∀ x y w', Calls Try.prog f #[x.val, y.val] w' (Ret (.int .i64 (cf x y)) w')) (hn : n ≤ 1000000000000) (L : List Nh) (w : World) (hD : Dat w base g n cap L) :
    Calls Try.prog 89 #[.slice (some ⟨g, 0, none⟩) n cap, .int .i64 n, .func (.func f) #[] #[]] w
      (Does (Blk1 g) (DatR base g n cap (fun L' => L'.Perm L ∧ Asc cf L' 0 n)) w) := by
  refine V_enter (vs := [_, _, _]) Try.func89 rfl Try.ntmps89 (Nat.le_of_ble_eq_true rfl) ?_
  repeat (first | refine Vx ?_ | (apply Ops_q; (case hon => exact Va); (case hd => rfl); (case hq => exact YlA)) | refine Vr ?_ | refine Vt ?_ | refine Vf ?_ | refine Vm ?_ | refine Ve ?_ | refine Vo ?_ | refine Vz ?_ | refine Vn ?_)
  refine V_loop (fun s : Nat × List Nh => [(7, .int .i64 s.1), (8, .int .i64 ((s.1 : Int) + 20)), (6, .int .i64 20), (0, .slice (some ⟨g, 0, none⟩) n cap), (1, .int .i64 n), (2, .func (.func f) #[] #[])])
    (fun s w' => s.1 ≤ n ∧ (∃ q, s.1 = q * 20 ∧ FirstB cf s.2 20 q) ∧ Mod (Blk1 g) w w' ∧ Dat w' base g n cap s.2 ∧ s.2.Perm L) (fun s => n - s.1) (0, L) (by repeat (first | exact trivial | refine ⟨rfl, ?_⟩))
    ⟨Nat.zero_le _, ⟨0, rfl, fun q hq => absurd hq (Nat.not_lt_zero _)⟩, .of_ext (Ext.refl _), hD, .refl _⟩ ?_
  rintro ⟨a, M⟩ w1 ⟨h1, ⟨q, hq, hF⟩, m1, D1, hp⟩
  dsimp only at h1 hq hF D1 hp ⊢
  repeat (first | refine Vx ?_ | (apply Ops_q; (case hon => exact Va); (case hd => rfl); (case hq => exact YlA)) | refine Vr ?_ | refine Vt ?_ | refine Vf ?_ | refine Vm ?_ | refine Ve ?_ | refine Vo ?_ | refine Vz ?_ | refine Vn ?_)
  refine V_cond rfl (fun hg => ?_) (fun hg => ?_)
  · replace hg := of_decide_eq_true hg
    have ha : a + 20 ≤ n := by omega
    repeat (first | refine Vx ?_ | (apply Ops_q; (case hon => exact Va); (case hd => rfl); (case hq => exact YlA)) | refine Vr ?_ | refine Vt ?_ | refine Vf ?_ | refine Vm ?_ | refine Ve ?_ | refine Vo ?_ | refine Vz ?_ | refine Vn ?_)
    refine Ops_callM (S := Blk1 g) (R := fun _ => DatR base g n cap (fun L' => Moved M L' a (a + 20) ∧ Asc cf L' a (a + 20))) (by exact Va) rfl rfl (fun w_ e_ => insertionSort_v ho hcf M a (a + 20) w_ (D1.ext e_) hn ha h1) ?_
    intro r w2 w0_ e0 m2 hR
    obtain ⟨rfl, M', D2, hp2, hA2⟩ := hR
    repeat (first | refine Vx ?_ | (apply Ops_q; (case hon => exact Va); (case hd => rfl); (case hq => exact YlA)) | refine Vr ?_ | refine Vt ?_ | refine Vf ?_ | refine Vm ?_ | refine Ve ?_ | refine Vo ?_ | refine Vz ?_ | refine Vn ?_)
    refine ⟨(a + 20, M'), (by repeat (first | exact trivial | refine ⟨rfl, ?_⟩)), ⟨ha, ⟨q + 1, by dsimp only; omega, ?_⟩, (m1.ext e0).trans m2, D2, hp2.perm.trans hp⟩, by simp only; omega⟩
    subst hq
    exact hF.step hp2 hA2
  replace hg := of_decide_eq_false hg
  repeat (first | refine Vx ?_ | (apply Ops_q; (case hon => exact Va); (case hd => rfl); (case hq => exact YlA)) | refine Vr ?_ | refine Vt ?_ | refine Vf ?_ | refine Vm ?_ | refine Ve ?_ | refine Vo ?_ | refine Vz ?_ | refine Vn ?_)
  refine Ops_callM (S := Blk1 g) (R := fun _ => DatR base g n cap (fun L' => Moved M L' a n ∧ Asc cf L' a n)) (by exact Va) rfl rfl (fun w_ e_ => insertionSort_v ho hcf M a n w_ (D1.ext e_) hn (Nat.le_refl _) h1) ?_
  intro r w2 w0_ e0 m2 hR
  obtain ⟨rfl, M2, D2, hp2, hA2⟩ := hR
  have hB2 : Blocks cf M2 n 20 := by
    subst hq
    exact hF.done (by omega) hp2 hA2
  have hp2' := hp2.perm.trans hp
  have m02 := (m1.ext e0).trans m2
  clear hF hA2 hp2 D1 m1 hp m2 e0 hg hq
  repeat (first | refine Vx ?_ | (apply Ops_q; (case hon => exact Va); (case hd => rfl); (case hq => exact YlA)) | refine Vr ?_ | refine Vt ?_ | refine Vf ?_ | refine Vm ?_ | refine Ve ?_ | refine Vo ?_ | refine Vz ?_ | refine Vn ?_)
  refine V_loop (fun s : Nat × List Nh => [(6, .int .i64 s.1), (0, .slice (some ⟨g, 0, none⟩) n cap), (1, .int .i64 n), (2, .func (.func f) #[] #[])])
    (fun s w' => 0 < s.1 ∧ s.1 ≤ 2 * n + 20 ∧ Blocks cf s.2 n s.1 ∧ Mod (Blk1 g) w w' ∧ Dat w' base g n cap s.2 ∧ s.2.Perm L) (fun s => n - s.1) (20, M2) (by repeat (first | exact trivial | refine ⟨rfl, ?_⟩))
    ⟨Nat.succ_pos _, by dsimp only; omega, hB2, m02, D2, hp2'⟩ ?_
  clear hB2 hp2' m02 D2
  rintro ⟨s, M⟩ w3 ⟨h2, h3, hB, m3, D3, hp3⟩
  dsimp only at h2 h3 hB D3 hp3 ⊢
  repeat (first | refine Vx ?_ | (apply Ops_q; (case hon => exact Va); (case hd => rfl); (case hq => exact YlA)) | refine Vr ?_ | refine Vt ?_ | refine Vf ?_ | refine Vm ?_ | refine Ve ?_ | refine Vo ?_ | refine Vz ?_ | refine Vn ?_)
  refine V_cond rfl (fun hg => ?_) (fun hg => ?_)
  · replace hg := of_decide_eq_true hg
    have hsn : s < n := by omega
    repeat (first | refine Vx ?_ | (apply Ops_q; (case hon => exact Va); (case hd => rfl); (case hq => exact YlA)) | refine Vr ?_ | refine Vt ?_ | refine Vf ?_ | refine Vm ?_ | refine Ve ?_ | refine Vo ?_ | refine Vz ?_ | refine Vn ?_)
    refine V_loop (fun z : Nat × List Nh => [(7, .int .i64 z.1), (8, .int .i64 (2 * (s : Int) + z.1)), (6, .int .i64 s), (0, .slice (some ⟨g, 0, none⟩) n cap), (1, .int .i64 n), (2, .func (.func f) #[] #[])])
      (fun z w' => z.1 ≤ n ∧ (∃ q, z.1 = q * (2 * s) ∧ MidB cf z.2 n s q) ∧ Mod (Blk1 g) w w' ∧ Dat w' base g n cap z.2 ∧ z.2.Perm L) (fun z => n - z.1) (0, M) (by repeat (first | exact trivial | refine ⟨rfl, ?_⟩))
      ⟨Nat.zero_le _, ⟨0, (Nat.zero_mul _).symm, hB.mid⟩, m3, D3, hp3⟩ ?_
    clear hB m3 D3 hp3
    rintro ⟨a, M⟩ w4 ⟨h4, ⟨q, hq, hM⟩, m4, D4, hp4⟩
    dsimp only at h4 hq hM D4 hp4 ⊢
    have e8 : 2 * (s : Int) + (a : Int) + 2 * (s : Int) = 2 * (s : Int) + ((2 * s + a : Nat) : Int) := by omega
    repeat (first | refine Vx ?_ | (apply Ops_q; (case hon => exact Va); (case hd => rfl); (case hq => exact YlA)) | refine Vr ?_ | refine Vt ?_ | refine Vf ?_ | refine Vm ?_ | refine Ve ?_ | refine Vo ?_ | refine Vz ?_ | refine Vn ?_)
    refine V_cond rfl (fun hg2 => ?_) (fun hg2 => ?_)
    · replace hg2 := of_decide_eq_true hg2
      have hab : 2 * s + a ≤ n := by omega
      have hparts := hM.parts (by omega)
      rw [← hq, Nat.min_eq_left (by omega), Nat.add_comm a (2 * s)] at hparts
      repeat (first | refine Vx ?_ | (apply Ops_q; (case hon => exact Va); (case hd => rfl); (case hq => exact YlA)) | refine Vr ?_ | refine Vt ?_ | refine Vf ?_ | refine Vm ?_ | refine Ve ?_ | refine Vo ?_ | refine Vz ?_ | refine Vn ?_)
      refine Ops_callM (S := Blk1 g) (R := fun _ => DatR base g n cap (fun L' => Moved M L' a (2 * s + a) ∧ Asc cf L' a (2 * s + a))) (by exact Va) rfl rfl (fun w_ e_ => symMerge_v ho hcf hn n M a (a + s) (2 * s + a) w_ (by omega) (D4.ext e_) (by omega) (by omega) hab hparts.1 hparts.2) ?_
      intro r w5 w0_ e0 m5 hR
      obtain ⟨rfl, M', D5, hp5, hA5⟩ := hR
      repeat (first | refine Vx ?_ | (apply Ops_q; (case hon => exact Va); (case hd => rfl); (case hq => exact YlA)) | refine Vr ?_ | refine Vt ?_ | refine Vf ?_ | refine Vm ?_ | refine Ve ?_ | refine Vo ?_ | refine Vz ?_ | refine Vn ?_)
      rw [e8]
      refine ⟨(2 * s + a, M'), (by repeat (first | exact trivial | refine ⟨rfl, ?_⟩)), ⟨hab, ⟨q + 1, by have : (q + 1) * (2 * s) = q * (2 * s) + 2 * s := Nat.succ_mul ..; dsimp only; omega, ?_⟩, (m4.ext e0).trans m5, D5, hp5.perm.trans hp4⟩, by simp only; omega⟩
      rw [hq, Nat.add_comm (2 * s)] at hp5 hA5
      exact hM.step hp5 hA5
    replace hg2 := of_decide_eq_false hg2
    repeat (first | refine Vx ?_ | (apply Ops_q; (case hon => exact Va); (case hd => rfl); (case hq => exact YlA)) | refine Vr ?_ | refine Vt ?_ | refine Vf ?_ | refine Vm ?_ | refine Ve ?_ | refine Vo ?_ | refine Vz ?_ | refine Vn ?_)
    refine V_cond rfl (fun hg3 => ?_) (fun hg3 => ?_)
    · replace hg3 := of_decide_eq_true hg3
      have hparts := hM.parts (by omega)
      rw [← hq, Nat.min_eq_right (by omega)] at hparts
      repeat (first | refine Vx ?_ | (apply Ops_q; (case hon => exact Va); (case hd => rfl); (case hq => exact YlA)) | refine Vr ?_ | refine Vt ?_ | refine Vf ?_ | refine Vm ?_ | refine Ve ?_ | refine Vo ?_ | refine Vz ?_ | refine Vn ?_)
      refine Ops_callM (S := Blk1 g) (R := fun _ => DatR base g n cap (fun L' => Moved M L' a n ∧ Asc cf L' a n)) (by exact Va) rfl rfl (fun w_ e_ => symMerge_v ho hcf hn n M a (a + s) n w_ (by omega) (D4.ext e_) (by omega) (by omega) (Nat.le_refl _) hparts.1 hparts.2) ?_
      intro r w5 w0_ e0 m5 hR
      obtain ⟨rfl, M', D5, hp5, hA5⟩ := hR
      repeat (first | refine Vx ?_ | (apply Ops_q; (case hon => exact Va); (case hd => rfl); (case hq => exact YlA)) | refine Vr ?_ | refine Vt ?_ | refine Vf ?_ | refine Vm ?_ | refine Ve ?_ | refine Vo ?_ | refine Vz ?_ | refine Vn ?_)
      refine ⟨(s * 2, M'), (by repeat (first | exact trivial | refine ⟨rfl, ?_⟩)), ⟨by dsimp only; omega, by dsimp only; omega, ?_, (m4.ext e0).trans m5, D5, hp5.perm.trans hp4⟩, by simp only; omega⟩
      rw [hq] at hp5 hA5
      dsimp only
      rw [Nat.mul_comm s 2]
      exact hM.done (by omega) hp5 hA5
    · replace hg3 := of_decide_eq_false hg3
      repeat (first | refine Vx ?_ | (apply Ops_q; (case hon => exact Va); (case hd => rfl); (case hq => exact YlA)) | refine Vr ?_ | refine Vt ?_ | refine Vf ?_ | refine Vm ?_ | refine Ve ?_ | refine Vo ?_ | refine Vz ?_ | refine Vn ?_)
      refine ⟨(s * 2, M), (by repeat (first | exact trivial | refine ⟨rfl, ?_⟩)), ⟨by dsimp only; omega, by dsimp only; omega, ?_, m4, D4, hp4⟩, by simp only; omega⟩
      dsimp only
      rw [Nat.mul_comm s 2]
      exact hM.done (by omega) (Moved.refl ..) (hM.rest (by omega))
  replace hg := of_decide_eq_false hg
  repeat (first | refine Vx ?_ | (apply Ops_q; (case hon => exact Va); (case hd => rfl); (case hq => exact YlA)) | refine Vr ?_ | refine Vt ?_ | refine Vf ?_ | refine Vm ?_ | refine Ve ?_ | refine Vo ?_ | refine Vz ?_ | refine Vn ?_)
  refine ret0 (by first | exact .inl rfl | exact .inr rfl) rfl ?_
  exact Does_mk (fun w' he => ⟨rfl, M, D3.ext he, hp3, hB.all (by omega)⟩) m3
theorem sortStable_v (ho : Ord cf) (hcf : ∀ x y w', Calls Try.prog f #[x.val, y.val] w' (Ret (.int .i64 (cf x y)) w')) (hn : n ≤ 1000000000000) (L : List Nh) (w : World) (hD : Dat w base g n cap L) :
    Calls Try.prog 69 #[.slice (some ⟨g, 0, none⟩) n cap, .func (.func f) #[] #[]] w
      (Does (Blk1 g) (DatR base g n cap (fun L' => L'.Perm L ∧ Asc cf L' 0 n)) w) := by
  refine V_enter (vs := [_, _]) Try.func69 rfl Try.ntmps69 (Nat.le_of_ble_eq_true rfl) ?_
  repeat (first | refine Vx ?_ | (apply Ops_q; (case hon => exact Va); (case hd => rfl); (case hq => exact YlA)) | refine Vr ?_ | refine Vt ?_ | refine Vf ?_ | refine Vm ?_ | refine Ve ?_ | refine Vo ?_ | refine Vz ?_ | refine Vn ?_)
  refine Ops_callM (S := Blk1 g) (R := fun _ => DatR base g n cap (fun L' => L'.Perm L ∧ Asc cf L' 0 n)) (by exact Va) rfl rfl (fun w_ e_ => stable_v ho hcf hn L w_ (hD.ext e_)) ?_
  intro r w2 w0_ e0 m2 hR
  obtain ⟨rfl, M2, D2, hp2, hA2⟩ := hR
  repeat (first | refine Vx ?_ | (apply Ops_q; (case hon => exact Va); (case hd => rfl); (case hq => exact YlA)) | refine Vr ?_ | refine Vt ?_ | refine Vf ?_ | refine Vm ?_ | refine Ve ?_ | refine Vo ?_ | refine Vz ?_ | refine Vn ?_)
  refine ret0 (by first | exact .inl rfl | exact .inr rfl) rfl ?_
  exact Does_mk (fun w' he => ⟨rfl, M2, D2.ext he, hp2, hA2⟩) ((Mod.of_ext e0).trans m2)
end
/-! ### No slice -/
theorem insertionSort_nil (fv : Value) (w : World) : Calls Try.prog 100 #[.slice none 0 0, .int .i64 0, .int .i64 0, fv] w (Ret (.tuple #[]) w) := by
  refine V_enter (vs := [_, _, _, _]) Try.func100 rfl Try.ntmps100 (Nat.le_of_ble_eq_true rfl) ?_
  repeat (first | refine Vx ?_ | (apply Ops_q; (case hon => exact Va); (case hd => rfl); (case hq => exact YlA)) | refine Vr ?_ | refine Vt ?_ | refine Vf ?_ | refine Vm ?_ | refine Ve ?_ | refine Vo ?_ | refine Vz ?_ | refine Vn ?_)
  refine V_loop (fun _ : Unit => [(8, .int .i64 1), (2, .int .i64 0)]) (fun _ w' => Ext w w') (fun _ => 0) () (by repeat (first | exact trivial | refine ⟨rfl, ?_⟩)) (Ext.refl _) ?_
  rintro _ w1 e1
  repeat (first | refine Vx ?_ | (apply Ops_q; (case hon => exact Va); (case hd => rfl); (case hq => exact YlA)) | refine Vr ?_ | refine Vt ?_ | refine Vf ?_ | refine Vm ?_ | refine Ve ?_ | refine Vo ?_ | refine Vz ?_ | refine Vn ?_)
  refine ret0 (by first | exact .inl rfl | exact .inr rfl) rfl ?_
  exact Ret_mk rfl e1
theorem stable_nil (fv : Value) (w : World) : Calls Try.prog 89 #[.slice none 0 0, .int .i64 0, fv] w (Ret (.tuple #[]) w) := by
  refine V_enter (vs := [_, _, _]) Try.func89 rfl Try.ntmps89 (Nat.le_of_ble_eq_true rfl) ?_
  repeat (first | refine Vx ?_ | (apply Ops_q; (case hon => exact Va); (case hd => rfl); (case hq => exact YlA)) | refine Vr ?_ | refine Vt ?_ | refine Vf ?_ | refine Vm ?_ | refine Ve ?_ | refine Vo ?_ | refine Vz ?_ | refine Vn ?_)
  refine V_loop (fun _ : Unit => [(7, .int .i64 0), (8, .int .i64 20), (6, .int .i64 20), (0, .slice none 0 0), (1, .int .i64 0), (2, fv)]) (fun _ w' => Ext w w') (fun _ => 0) () (by repeat (first | exact trivial | refine ⟨rfl, ?_⟩)) (Ext.refl _) ?_
  rintro _ w1 e1
  repeat (first | refine Vx ?_ | (apply Ops_q; (case hon => exact Va); (case hd => rfl); (case hq => exact YlA)) | refine Vr ?_ | refine Vt ?_ | refine Vf ?_ | refine Vm ?_ | refine Ve ?_ | refine Vo ?_ | refine Vz ?_ | refine Vn ?_)
  (apply Ops_q; (case hon => (exact Va)); (case hd => rfl); (case hq => exact Yl_call rfl (fun w_ e_ => insertionSort_nil fv w_)))
  repeat (first | refine Vx ?_ | (apply Ops_q; (case hon => exact Va); (case hd => rfl); (case hq => exact YlA)) | refine Vr ?_ | refine Vt ?_ | refine Vf ?_ | refine Vm ?_ | refine Ve ?_ | refine Vo ?_ | refine Vz ?_ | refine Vn ?_)
  refine V_loop (fun _ : Unit => [(6, .int .i64 20), (1, .int .i64 0)]) (fun _ w' => Ext w w') (fun _ => 0) () (by repeat (first | exact trivial | refine ⟨rfl, ?_⟩)) e1 ?_
  rintro _ w1 e1
  repeat (first | refine Vx ?_ | (apply Ops_q; (case hon => exact Va); (case hd => rfl); (case hq => exact YlA)) | refine Vr ?_ | refine Vt ?_ | refine Vf ?_ | refine Vm ?_ | refine Ve ?_ | refine Vo ?_ | refine Vz ?_ | refine Vn ?_)
  refine ret0 (by first | exact .inl rfl | exact .inr rfl) rfl ?_
  exact Ret_mk rfl e1
theorem sortStable_nil (fv : Value) (w : World) : Calls Try.prog 69 #[.slice none 0 0, fv] w (Ret (.tuple #[]) w) := by
  refine V_enter (vs := [_, _]) Try.func69 rfl Try.ntmps69 (Nat.le_of_ble_eq_true rfl) ?_
  repeat (first | refine Vx ?_ | (apply Ops_q; (case hon => exact Va); (case hd => rfl); (case hq => exact YlA)) | refine Vr ?_ | refine Vt ?_ | refine Vf ?_ | refine Vm ?_ | refine Ve ?_ | refine Vo ?_ | refine Vz ?_ | refine Vn ?_)
  (apply Ops_q; (case hon => (exact Va)); (case hd => rfl); (case hq => exact Yl_call rfl (fun w_ e_ => stable_nil fv w_)))
  repeat (first | refine Vx ?_ | (apply Ops_q; (case hon => exact Va); (case hd => rfl); (case hq => exact YlA)) | refine Vr ?_ | refine Vt ?_ | refine Vf ?_ | refine Vm ?_ | refine Ve ?_ | refine Vo ?_ | refine Vz ?_ | refine Vn ?_)
  refine ret0 (by first | exact .inl rfl | exact .inr rfl) rfl ?_
  exact Ret_mk rfl (Ext.refl _)
end Go.Proofs.Ytkdjbddjblahkaa

/-
  Routes (layer 49): comparing hops; combining.
  Conditions: addresses and routers are numbers of 32 bits; lists are not too long.
-/
namespace Go.Proofs.Ytkdjbddjblahkaa
open Go.RowKit

theorem orL3 (a b c : Int) : orL [a, b, c] = or3 a b c := by
  simp only [orL, or3]
  by_cases h1 : a = 0
  · subst h1
    by_cases h2 : b = 0
    · subst h2
      by_cases h3 : c = 0
      · subst h3; rfl
      · simp [h3]
    · simp [h2]
  · simp [h1]
theorem compareN_v (a b : Nh) (w : World) : Calls Try.prog 70 #[a.val, b.val] w (Ret (.int .i64 (cmpH a b)) w) := by
  refine V_enter (vs := [_, _]) Try.func70 rfl Try.ntmps70 (Nat.le_of_ble_eq_true rfl) ?_
  repeat (first | refine Vx ?_ | (apply Ops_q; (case hon => exact Va); (case hd => rfl); (case hq => exact YlA)) | refine Vr ?_ | refine Vt ?_ | refine Vf ?_ | refine Vm ?_ | refine Ve ?_ | refine Vo ?_ | refine Vz ?_ | refine Vn ?_)
  (refine Ops_box (by exact Va) rfl rfl rfl ?_; intro w1 b2 n_b2; have k_b2 := n_b2.blk)
  have x1 := n_b2.ext
  clear n_b2
  repeat (first | refine Vx ?_ | (apply Ops_q; (case hon => exact Va); (case hd => rfl); (case hq => exact YlA)) | refine Vr ?_ | refine Vt ?_ | refine Vf ?_ | refine Vm ?_ | refine Ve ?_ | refine Vo ?_ | refine Vz ?_ | refine Vn ?_)
  (refine Ops_box (by exact Va) rfl rfl rfl ?_; intro w2 b3 n_b3; have k_b3 := n_b3.blk)
  have x2 := x1.trans n_b3.ext
  replace k_b2 := k_b2.ext n_b3.ext
  clear n_b3
  repeat (first | refine Vx ?_ | (apply Ops_q; (case hon => exact Va); (case hd => rfl); (case hq => exact YlA)) | refine Vt ?_ | refine Vf ?_ | refine Vm ?_ | refine Ve ?_ | refine Vo ?_ | refine Vz ?_ | refine Vn ?_)
  refine V_givers 16 [20] (fun _ v w' => ∃ bb, v = .slice (some ⟨bb, 0, none⟩) 3 3 ∧ Blk w' bb 3 [.int .i64 (sg a.addr b.addr), .int .i64 (sg a.iface b.iface), .int .i64 (sg a.router b.router)]) (fun _ _ _ _ he ⟨bb, h1, h2⟩ => ⟨bb, h1, h2.ext he⟩) (by kernel_rfl) (by kernel_rfl) (by kernel_rfl) ?_
  repeat (first | (apply YsH.q; (case h2 => rfl); (case h3 => rfl); (case hq => exact YlA)) | refine YsH.nil rfl ?_)
  (apply YsH.q; (case h2 => rfl); (case h3 => rfl); (case hq => exact Yl_call rfl (fun w_ e_ => cmpA_v a.addr b.addr w_)))
  repeat (first | (apply YsH.q; (case h2 => rfl); (case h3 => rfl); (case hq => exact YlA)) | refine YsH.nil rfl ?_)
  (apply YsH.q; (case h2 => rfl); (case h3 => rfl); (case hq => exact Yl_call rfl (fun w_ e_ => cmpI_v a.iface b.iface w_)))
  repeat (first | (apply YsH.q; (case h2 => rfl); (case h3 => rfl); (case hq => exact YlA)) | refine YsH.nil rfl ?_)
  (apply YsH.q; (case h2 => rfl); (case h3 => rfl); (case hq => exact Yl_call rfl (fun w_ e_ => cmpU_v a.router b.router w_)))
  repeat (first | (apply YsH.q; (case h2 => rfl); (case h3 => rfl); (case hq => exact YlA)) | refine YsH.nil rfl ?_)
  refine YsH.g rfl rfl (by kernel_rfl) ((Gvs_lit rfl rfl).imp (fun v w' ⟨b, h1, _, h2⟩ => ⟨b, h1, h2⟩)) ?_
  repeat (first | (apply YsH.q; (case h2 => rfl); (case h3 => rfl); (case hq => exact YlA)) | refine YsH.nil rfl ?_)
  intro Y w3 e3 hY
  obtain ⟨bb, hY1, kb⟩ := hY 20 (by decide)
  unfold givn
  simp only [List.map_cons, List.map_nil, List.cons_append, List.nil_append]
  rw [hY1]
  repeat (first | refine Vx ?_ | (apply Ops_q; (case hon => exact Va); (case hd => rfl); (case hq => exact YlA)) | refine Vr ?_ | refine Vt ?_ | refine Vf ?_ | refine Vm ?_ | refine Ve ?_ | refine Vo ?_ | refine Vz ?_ | refine Vn ?_)
  (apply Ops_q; (case hon => (exact Va)); (case hd => rfl); (case hq => exact Yl_call rfl (fun w_ e_ => orI_v ⟨bb, 0, none⟩ [sg a.addr b.addr, sg a.iface b.iface, sg a.router b.router] 3 3 w_ rfl (show 3 ≤ 64 by decide) (kb.ext e_).cells)))
  repeat (first | refine Vx ?_ | (apply Ops_q; (case hon => exact Va); (case hd => rfl); (case hq => exact YlA)) | refine Vr ?_ | refine Vt ?_ | refine Vf ?_ | refine Vm ?_ | refine Ve ?_ | refine Vo ?_ | refine Vz ?_ | refine Vn ?_)
  refine ret1 (by first | exact .inl rfl | exact .inr rfl) rfl rfl ?_
  exact Ret_mk (by rw [orL3]; rfl) (x2.trans e3)
end Go.Proofs.Ytkdjbddjblahkaa

/-
  Routes (layer 49), plain: combining hops: sorted by what they are, those alike made one; and the same by insertion.
-/
namespace Go.Proofs.Ytkdjbddjblahkaa
open Go.RowKit

/-- Two hops that are alike, made one: the greater weight, the smaller prefix. -/
def mrgH (x y : Nh) : Nh := ⟨x.addr, x.iface, x.router, max x.weight y.weight, if cmpP y.via x.via < 0 then y.via else x.via⟩
def isLike (x y : Nh) : Bool := decide (cmpH x y = 0)
/-- What the loop over the sorted hops has made. -/
def mrgS (M : List Nh) (y : Nh) : List Nh := match M.getLast? with
  | none => M ++ [y]
  | some x => if cmpH x y ≠ 0 then M ++ [y] else M.dropLast ++ [mrgH x y]
def mrgL (L : List Nh) : List Nh := L.foldl mrgS []
theorem mrgH_good {x y : Nh} (hx : x.good) (hy : y.good) : (mrgH x y).good := by
  obtain ⟨⟨x1, x2, x3⟩, x4, x5⟩ := hx
  obtain ⟨⟨y1, y2, y3⟩, y4, y5⟩ := hy
  refine ⟨⟨x1, x2, ?_⟩, Int.le_trans x4 (Int.le_max_left _ _), Int.max_le.2 ⟨x5, y5⟩⟩
  unfold mrgH; dsimp only; split <;> assumption
theorem mrgS_good {M : List Nh} {y : Nh} (hM : ∀ x ∈ M, x.good) (hy : y.good) : ∀ x ∈ mrgS M y, x.good := by
  unfold mrgS
  have app : ∀ x ∈ M ++ [y], x.good := fun x hx => by
    rcases List.mem_append.1 hx with h | h
    · exact hM x h
    · simp at h; subst h; exact hy
  split
  · exact app
  · rename_i z hz
    split
    · exact app
    · intro x hx
      rcases List.mem_append.1 hx with h | h
      · exact hM x ((List.dropLast_sublist M).subset h)
      · simp at h; subst h; exact mrgH_good (hM z (List.mem_of_getLast? hz)) hy
theorem mrgL_good : ∀ {L M : List Nh}, (∀ x ∈ M, x.good) → (∀ x ∈ L, x.good) → ∀ x ∈ L.foldl mrgS M, x.good
  | [], _, hM, _ => hM
  | y :: L, M, hM, hL => mrgL_good (L := L) (M := mrgS M y) (mrgS_good hM (hL y List.mem_cons_self)) (fun x hx => hL x (List.mem_cons_of_mem _ hx))
theorem mrgS_len (M : List Nh) (y : Nh) : (mrgS M y).length ≤ M.length + 1 := by
  unfold mrgS
  split
  · simp
  · split
    · simp
    · rw [List.length_append, List.length_dropLast]; simp only [List.length_cons, List.length_nil]; omega
theorem sg_self (a : Int) : sg a a = 0 := sg_zero.2 rfl
theorem sg_anti (a b : Int) : sg a b = - sg b a := by unfold sg; split <;> split <;> omega
theorem cmpH_zero {x y : Nh} : cmpH x y = 0 ↔ x.addr = y.addr ∧ x.iface = y.iface ∧ x.router = y.router := by
  unfold cmpH or3
  constructor
  · intro h
    split at h
    · rename_i h1; exact absurd h h1
    · rename_i h1
      split at h
      · rename_i h2; exact absurd h h2
      · rename_i h2
        have e1 := sg_zero.1 (Classical.not_not.1 h1)
        have e2 := sg_zero.1 (Classical.not_not.1 h2)
        have e3 := sg_zero.1 h
        exact ⟨by omega, e2, by omega⟩
  · rintro ⟨h1, h2, h3⟩
    rw [h1, h2, h3, sg_self, sg_self, sg_self]
    decide
theorem cmpH_lt {x y : Nh} : cmpH x y < 0 ↔ x.addr < y.addr ∨ x.addr = y.addr ∧ (x.iface < y.iface ∨ x.iface = y.iface ∧ x.router < y.router) := by
  unfold cmpH or3 sg
  repeat (first | split | omega)
theorem ordH : Ord cmpH := by
  constructor
  · intro x y h
    rw [cmpH_lt] at *
    omega
  · intro x y z h1 h2
    rw [cmpH_lt] at *
    omega
/-! ### By insertion -/
def ins (y : Nh) : List Nh → List Nh
  | [] => [y]
  | x :: M => if cmpH y x < 0 then y :: x :: M else if cmpH x y = 0 then mrgH x y :: M else x :: ins y M
def insA (M L : List Nh) : List Nh := L.foldl (fun M y => ins y M) M
/-- Strictly ascending. -/
def Up (M : List Nh) : Prop := M.Pairwise fun x y => cmpH x y < 0
theorem cmpH_key {x y z : Nh} (h : cmpH x y = 0) : (cmpH x z < 0 ↔ cmpH y z < 0) ∧ (cmpH z x < 0 ↔ cmpH z y < 0) ∧ (cmpH x z = 0 ↔ cmpH y z = 0) ∧ (cmpH z x = 0 ↔ cmpH z y = 0) := by
  rw [cmpH_zero] at *
  simp only [cmpH_lt, cmpH_zero]
  omega
theorem cmpH_mrg {x y : Nh} : cmpH (mrgH x y) x = 0 := cmpH_zero.2 ⟨rfl, rfl, rfl⟩
theorem cmpH_tri (x y : Nh) : cmpH x y < 0 ∨ cmpH x y = 0 ∨ cmpH y x < 0 := by
  rw [cmpH_zero]; simp only [cmpH_lt]; omega
theorem cmpH_trans {x y z : Nh} (h1 : cmpH x y < 0) (h2 : cmpH y z < 0) : cmpH x z < 0 := by
  rw [cmpH_lt] at *; omega
theorem cmpH_sym {x y : Nh} (h : cmpH x y = 0) : cmpH y x = 0 := by rw [cmpH_zero] at *; omega
theorem cmpH_nlt {x y : Nh} (h : cmpH x y = 0) : ¬cmpH x y < 0 ∧ ¬cmpH y x < 0 := by rw [cmpH_zero] at h; simp only [cmpH_lt]; omega
theorem cmpH_ne {x y : Nh} (h : cmpH x y < 0) : ¬cmpH x y = 0 ∧ ¬cmpH y x = 0 ∧ ¬cmpH y x < 0 := by rw [cmpH_zero, cmpH_zero]; simp only [cmpH_lt] at *; omega
theorem ins_lt {x y : Nh} {M : List Nh} (h : cmpH y x < 0) : ins y (x :: M) = y :: x :: M := by rw [ins, if_pos h]
theorem ins_eq {x y : Nh} {M : List Nh} (h : cmpH x y = 0) : ins y (x :: M) = mrgH x y :: M := by rw [ins, if_neg (cmpH_nlt h).2, if_pos h]
theorem ins_gt {x y : Nh} {M : List Nh} (h : cmpH x y < 0) : ins y (x :: M) = x :: ins y M := by rw [ins, if_neg (cmpH_ne h).2.2, if_neg (cmpH_ne h).1]
theorem cmpP_neg {p q : Pf} : cmpP p q < 0 ↔ p.a < q.a ∨ p.a = q.a ∧ p.n < q.n := by
  unfold cmpP
  by_cases h : pLt p q
  · rw [if_pos h]
    exact ⟨fun _ => h, fun _ => by decide⟩
  · rw [if_neg h]
    exact ⟨fun h2 => by split at h2 <;> omega, fun h2 => absurd h2 h⟩
def mv (p q : Pf) : Pf := if cmpP q p < 0 then q else p
theorem mv_comm (p q : Pf) : mv p q = mv q p := by
  unfold mv
  simp only [cmpP_neg]
  split <;> split
  · omega
  · rfl
  · rfl
  · exact pf_eq (by omega) (by omega)
theorem mv_assoc (p q r : Pf) : mv (mv p q) r = mv p (mv q r) := by
  unfold mv
  simp only [cmpP_neg]
  by_cases h1 : q.a < p.a ∨ q.a = p.a ∧ q.n < p.n <;> by_cases h2 : r.a < q.a ∨ r.a = q.a ∧ r.n < q.n <;> by_cases h3 : r.a < p.a ∨ r.a = p.a ∧ r.n < p.n <;> simp only [h1, h2, h3, if_true, if_false] <;> first | rfl | (exfalso; omega)
theorem mrgH_eq (x y : Nh) : mrgH x y = ⟨x.addr, x.iface, x.router, max x.weight y.weight, mv x.via y.via⟩ := rfl
theorem mrg_comm {x y : Nh} (h : cmpH x y = 0) : mrgH x y = mrgH y x := by
  obtain ⟨h1, h2, h3⟩ := cmpH_zero.1 h
  rw [mrgH_eq, mrgH_eq, h1, h2, h3, Int.max_comm, mv_comm]
theorem mrg_swap (z x y : Nh) : mrgH (mrgH z x) y = mrgH (mrgH z y) x := by
  rw [mrgH_eq, mrgH_eq, mrgH_eq, mrgH_eq]
  simp only
  rw [Int.max_assoc, Int.max_comm x.weight, ← Int.max_assoc, mv_assoc, mv_comm x.via, ← mv_assoc]
theorem mrg_key {x y z : Nh} : (cmpH (mrgH x y) z < 0 ↔ cmpH x z < 0) ∧ (cmpH z (mrgH x y) < 0 ↔ cmpH z x < 0) ∧ (cmpH (mrgH x y) z = 0 ↔ cmpH x z = 0) ∧ (cmpH z (mrgH x y) = 0 ↔ cmpH z x = 0) := cmpH_key cmpH_mrg
/-- The order of insertions does not count. -/
theorem ins_swap : ∀ (M : List Nh) (x y : Nh), ins y (ins x M) = ins x (ins y M)
  | [], x, y => by
    show ins y [x] = ins x [y]
    rcases cmpH_tri x y with h | h | h
    · rw [ins_gt h, ins_lt h]; rfl
    · rw [ins_eq h, ins_eq (cmpH_sym h), mrg_comm h]
    · rw [ins_lt h, ins_gt h]; rfl
  | z :: M, x, y => by
    rcases cmpH_tri z x with hx | hx | hx
    · rw [ins_gt hx]
      rcases cmpH_tri z y with hy | hy | hy
      · rw [ins_gt hy, ins_gt hy, ins_gt hx, ins_swap M x y]
      · rw [ins_eq hy, ins_eq hy, ins_gt ((mrg_key).1.2 hx)]
      · rw [ins_lt hy, ins_lt hy, ins_gt (cmpH_trans hy hx), ins_gt hx]
    · rw [ins_eq hx]
      rcases cmpH_tri z y with hy | hy | hy
      · rw [ins_gt hy, ins_gt ((mrg_key).1.2 hy), ins_eq hx]
      · rw [ins_eq hy, ins_eq ((mrg_key).2.2.1.2 hy), ins_eq ((mrg_key).2.2.1.2 hx), mrg_swap]
      · rw [ins_lt hy, ins_lt ((mrg_key).2.1.2 hy), ins_gt ((cmpH_key hx).2.1.1 hy), ins_eq hx]
    · rw [ins_lt hx]
      rcases cmpH_tri z y with hy | hy | hy
      · rw [ins_gt hy, ins_lt hx, ins_gt (cmpH_trans hx hy), ins_gt hy]
      · rw [ins_eq hy, ins_lt ((mrg_key).2.1.2 hx), ins_gt ((cmpH_key hy).2.1.1 hx), ins_eq hy]
      · rw [ins_lt hy]
        rcases cmpH_tri x y with h | h | h
        · rw [ins_gt h, ins_lt h, ins_lt hy]
        · rw [ins_eq h, ins_eq (cmpH_sym h), mrg_comm h]
        · rw [ins_lt h, ins_gt h, ins_lt hx]
theorem insA_perm {L L' : List Nh} (h : L.Perm L') : ∀ M, insA M L = insA M L' := by
  induction h with
  | nil => exact fun _ => rfl
  | cons x _ ih => exact fun M => ih _
  | swap x y l => exact fun M => by unfold insA; simp only [List.foldl_cons]; rw [ins_swap]
  | trans _ _ h1 h2 => exact fun M => (h1 M).trans (h2 M)
/-- A hop that is not below the last one. -/
theorem ins_last : ∀ {M : List Nh} {y : Nh}, Up M → (∀ x ∈ M, ¬cmpH y x < 0) → ins y M = mrgS M y
  | [], _, _, _ => rfl
  | [x], y, _, h => by
    have h1 := h x List.mem_cons_self
    unfold mrgS
    simp only [List.getLast?_singleton]
    rcases cmpH_tri x y with h2 | h2 | h2
    · rw [ins_gt h2, if_pos (cmpH_ne h2).1]; rfl
    · rw [ins_eq h2, if_neg (fun h3 => h3 h2)]; rfl
    · exact absurd h2 h1
  | x :: x2 :: M, y, hu, h => by
    have hu2 := List.pairwise_cons.1 hu
    have ih := ins_last (M := x2 :: M) (y := y) hu2.2 (fun z hz => h z (List.mem_cons_of_mem _ hz))
    have hlt : cmpH x y < 0 := by
      rcases cmpH_tri x2 y with h3 | h3 | h3
      · exact cmpH_trans (hu2.1 x2 List.mem_cons_self) h3
      · exact (cmpH_key h3).2.1.1 (hu2.1 x2 List.mem_cons_self)
      · exact absurd h3 (h x2 (List.mem_cons_of_mem _ List.mem_cons_self))
    rw [ins_gt hlt, ih]
    unfold mrgS
    rw [List.getLast?_cons_cons]
    split
    · rename_i h4; simp at h4
    · split
      · rfl
      · simp
end Go.Proofs.Ytkdjbddjblahkaa

/-
  Routes (layer 49), plain: the loop over sorted hops makes what insertion makes.
-/
namespace Go.Proofs.Ytkdjbddjblahkaa
open Go.RowKit

/-- Not descending. -/
def SrtH (L : List Nh) : Prop := L.Pairwise fun x y => ¬cmpH y x < 0
theorem asc_srt {L : List Nh} (h : Asc cmpH L 0 L.length) : SrtH L := by
  unfold SrtH
  rw [List.pairwise_iff_getElem]
  intro i j hi hj hij
  exact h i j _ _ (Nat.zero_le _) hij hj (List.getElem?_eq_getElem hi) (List.getElem?_eq_getElem hj)
theorem mem_ins {y x : Nh} : ∀ {M : List Nh}, x ∈ ins y M → x = y ∨ x ∈ M ∨ ∃ z ∈ M, x = mrgH z y ∧ cmpH z y = 0
  | [], h => by
    rw [ins] at h
    exact .inl (List.mem_singleton.1 h)
  | z :: M, h => by
    rw [ins] at h
    split at h
    · rcases List.mem_cons.1 h with e | e
      · exact .inl e
      · exact .inr (.inl e)
    · split at h
      · rename_i h2
        rcases List.mem_cons.1 h with e | e
        · exact .inr (.inr ⟨z, List.mem_cons_self, e, h2⟩)
        · exact .inr (.inl (List.mem_cons_of_mem _ e))
      · rcases List.mem_cons.1 h with e | e
        · exact .inr (.inl (e ▸ List.mem_cons_self))
        · rcases mem_ins e with e | e | ⟨w, e1, e2⟩
          · exact .inl e
          · exact .inr (.inl (List.mem_cons_of_mem _ e))
          · exact .inr (.inr ⟨w, List.mem_cons_of_mem _ e1, e2⟩)
theorem up_ins {y : Nh} : ∀ {M : List Nh}, Up M → Up (ins y M)
  | [], _ => List.pairwise_singleton _ _
  | z :: M, h => by
    have h2 := List.pairwise_cons.1 h
    rcases cmpH_tri z y with h3 | h3 | h3
    · rw [ins_gt h3]
      refine List.pairwise_cons.2 ⟨fun x hx => ?_, up_ins h2.2⟩
      rcases mem_ins hx with e | e | ⟨w, e1, e2, _⟩
      · subst e; exact h3
      · exact h2.1 x e
      · subst e2; exact (mrg_key).2.1.2 (h2.1 w e1)
    · rw [ins_eq h3]
      exact List.pairwise_cons.2 ⟨fun x hx => (mrg_key).1.2 (h2.1 x hx), h2.2⟩
    · rw [ins_lt h3]
      refine List.pairwise_cons.2 ⟨fun x hx => ?_, h⟩
      rcases List.mem_cons.1 hx with e | e
      · subst e; exact h3
      · exact cmpH_trans h3 (h2.1 x e)
theorem insA_up : ∀ {L M : List Nh}, Up M → Up (insA M L)
  | [], _, h => h
  | y :: L, M, h => insA_up (L := L) (M := ins y M) (up_ins h)
theorem srt_insA : ∀ {L M : List Nh}, Up M → SrtH L → (∀ x ∈ M, ∀ y ∈ L, ¬cmpH y x < 0) → L.foldl mrgS M = insA M L
  | [], _, _, _, _ => rfl
  | y :: L, M, hu, hs, hM => by
    have hs2 := List.pairwise_cons.1 hs
    have e := ins_last hu (fun x hx => hM x hx y List.mem_cons_self)
    show L.foldl mrgS (mrgS M y) = insA (ins y M) L
    rw [← e]
    refine srt_insA (up_ins hu) hs2.2 fun x hx z hz => ?_
    rcases mem_ins hx with h | h | ⟨w, h1, h2, _⟩
    · subst h; exact hs2.1 z hz
    · exact hM x h z (List.mem_cons_of_mem _ hz)
    · subst h2; exact fun h3 => hM w h1 z (List.mem_cons_of_mem _ hz) ((mrg_key).2.1.1 h3)
theorem mrgL_eq {L L' : List Nh} (hp : L'.Perm L) (hs : SrtH L') : mrgL L' = insA [] L := by
  unfold mrgL
  rw [srt_insA (List.Pairwise.nil) hs (fun _ h => nomatch h)]
  exact insA_perm hp []
/-- What hops are combined to. -/
def cbS (L : List Nh) : List Nh := (insA [] L).take 64
theorem ins_good {y : Nh} {M : List Nh} (hy : y.good) (hM : ∀ x ∈ M, x.good) : ∀ x ∈ ins y M, x.good := fun x hx => by
  rcases mem_ins hx with h | h | ⟨w, h1, h2, _⟩
  · subst h; exact hy
  · exact hM x h
  · subst h2; exact mrgH_good (hM w h1) hy
theorem insA_good : ∀ {L M : List Nh}, (∀ x ∈ M, x.good) → (∀ x ∈ L, x.good) → ∀ x ∈ insA M L, x.good
  | [], _, hM, _ => hM
  | y :: L, M, hM, hL => insA_good (L := L) (M := ins y M) (ins_good (hL y List.mem_cons_self) hM) (fun x hx => hL x (List.mem_cons_of_mem _ hx))
theorem cbOk : CbOk cbS := ⟨fun L => by unfold cbS; rw [List.length_take]; omega, fun L hL x hx => insA_good (M := []) (fun y h => by cases h) hL x (List.mem_of_mem_take hx)⟩
theorem ins_len (y : Nh) (M : List Nh) : M.length ≤ (ins y M).length ∧ (ins y M).length ≤ M.length + 1 := by
  induction M with
  | nil => simp [ins]
  | cons z M ih =>
    rw [ins]
    split
    · simp
    · split
      · simp
      · simp only [List.length_cons]; omega
theorem insA_pos {y : Nh} {L : List Nh} : ∀ {M : List Nh}, 0 < (insA M (y :: L)).length := by
  have key : ∀ (L : List Nh) (M : List Nh), 0 < M.length → 0 < (insA M L).length := by
    intro L
    induction L with
    | nil => exact fun M h => h
    | cons z L ih => exact fun M h => ih (ins z M) (Nat.lt_of_lt_of_le h (ins_len z M).1)
  intro M
  refine key L (ins y M) ?_
  cases M with
  | nil => simp [ins]
  | cons z M =>
    rw [ins]
    split
    · simp
    · split <;> simp
end Go.Proofs.Ytkdjbddjblahkaa

/-
  A store of some cells of an element of a list of one's own.
  No conditions beyond those that each rule states.
-/
namespace Go.Proofs.Ytkdjbddjblahkaa
open Go.RowKit

theorem splice_len {cs u : List Value} {o : Nat} (h : o + u.length ≤ cs.length) : (splice cs o u).length = cs.length := by
  unfold splice; simp only [List.length_append, List.length_take, List.length_drop]; omega
theorem flatten_part {n0 f : Nat} {u : List Value} : ∀ (L : List (List Value)) (i : Nat) (xi : List Value), (∀ x ∈ L, x.length = n0) → L[i]? = some xi → f + u.length ≤ n0 → (L.set i (splice xi f u)).flatten = splice L.flatten (i * n0 + f) u
  | [], i, xi, _, h, _ => by simp at h
  | y :: r, 0, xi, hl, h, hf => by
    simp at h; subst h
    have hy := hl y List.mem_cons_self
    rw [List.set_cons_zero, List.flatten_cons, List.flatten_cons, Nat.zero_mul, Nat.zero_add]
    unfold splice
    rw [List.take_append_of_le_length (by omega), List.drop_append_of_le_length (by omega)]
    simp only [List.append_assoc]
  | y :: r, i + 1, xi, hl, h, hf => by
    have hy := hl y List.mem_cons_self
    have ih := flatten_part r i xi (fun x hx => hl x (List.mem_cons_of_mem _ hx)) (by simpa using h) hf
    rw [List.set_cons_succ, List.flatten_cons, List.flatten_cons, ih]
    unfold splice
    have e : (i + 1) * n0 + f = y.length + (i * n0 + f) := by rw [Nat.succ_mul, hy]; omega
    have e2 : y.length + (i * n0 + f) + u.length = y.length + (i * n0 + f + u.length) := by omega
    rw [e, e2, List.take_length_add_append, List.drop_length_add_append, List.append_assoc, List.append_assoc, List.append_assoc]
section
variable {P : Program} {N : Fr} {ops : Array Oper} {K : Env → World → Prop} {m : Env} {w : World} {rest : List Oper} {ty : TypeId} {pos : String} {after : Array Edge} {gd : Option (Nat × Bool)}
theorem Ops_storePart {t e : TypeId} {x y : Operand} {base b0 n0 nu g cap i f : Nat} {p : Addr} {v : Value} {u xi : List Value} {L : List (List Value)} [hs : TSize P t nu b0] (hon : On N ops m ⟨none, .store t x y, ty, pos, after, gd⟩)
    (hx : ev m x = some (.pointer (some p))) (hy : ev m y = some v) (hp : p = ⟨g, i * n0 + f, none⟩) (hown : Own w base e n0 (.slice (some ⟨g, 0, none⟩) L.length cap) L) (hi : L[i]? = some xi) [hu : TCells v u] [hl : TLen u nu] (hf : f + nu ≤ n0) (h1 : u.all (fun u => u.oneCell') = true)
    (h : ∀ w1, Own w1 base e n0 (.slice (some ⟨g, 0, none⟩) L.length cap) (L.set i (splice xi f u)) → w.grownBy w1 (some g) → Ops P N ops false K rest m w1) : Ops P N ops false K (⟨none, .store t x y, ty, pos, after, gd⟩ :: rest) m w := by
  subst hp
  obtain ⟨hlen, ⟨h2, _⟩ | ⟨g', cap', cur, h2, h3, h4, h5, h6, h7, h8⟩⟩ := hown.row
  · cases h2
  cases h2
  have hB : Blk w g e cur.toList := by unfold Blk; simpa using h4
  have hil : i < L.length := (List.getElem?_eq_some_iff.1 hi).1
  have hul := hl.h
  have ho : i * n0 + f + u.length ≤ L.length * n0 := by
    have : (i + 1) * n0 ≤ L.length * n0 := Nat.mul_le_mul_right _ hil
    rw [Nat.succ_mul] at this; omega
  have hc : cur.toList.length = cap * n0 := by simpa using h7
  have hlc : L.length * n0 ≤ cap * n0 := Nat.mul_le_mul_right _ h5
  have : TSplice (i * n0 + f) u cur.toList (splice cur.toList (i * n0 + f) u) := ⟨over_splice _ _ _ (by omega), by omega⟩
  have hsl : (splice cur.toList (i * n0 + f) u).length = cur.toList.length := splice_len (by omega)
  have hfl := flatten_part (f := f) (u := u) L i xi hown.len hi (by omega)
  refine Ops_store (vs := u) hon hx hy hB h1 (fun w1 hu1 => h w1 ⟨⟨?_, .inr ⟨g, cap, _, by rw [List.length_set], h3, hu1.blk, ?_, h6, ?_, ?_⟩⟩, ?_⟩ hu1.grown)
  · rw [hfl, List.length_set, splice_len (cs := L.flatten) (by rw [hlen]; omega)]; exact hlen
  · rw [List.length_set]; exact h5
  · rw [← hc, ← hsl]; simp
  · rw [hfl, List.length_set, ← h8]
    unfold splice
    have e1 : (List.take (i * n0 + f) cur.toList ++ u).length = i * n0 + f + u.length := by rw [List.length_append, List.length_take, Nat.min_eq_left (by omega)]
    rw [List.take_append, e1, List.take_of_length_le (by omega), List.take_take, Nat.min_eq_left (by omega), List.drop_take]
  · intro z hz
    rcases List.mem_or_eq_of_mem_set hz with hz | rfl
    · exact hown.len z hz
    · have hxl := hown.len xi (List.mem_of_getElem? hi)
      exact (splice_len (u := u) (o := f) (cs := xi) (by omega)).trans hxl
end
end Go.Proofs.Ytkdjbddjblahkaa

/-
  Routes (layer 49): combining: the walk.
  Conditions: addresses and routers are numbers of 32 bits; lists are not too long.
-/
namespace Go.Proofs.Ytkdjbddjblahkaa
open Go.RowKit

theorem addr_two (g a b : Nat) : ((⟨g, 0, none⟩ : Addr).add a).add b = ⟨g, a + b, none⟩ := by
  by_cases h1 : a = 0 <;> by_cases h2 : b = 0 <;> simp [Addr.add, h1, h2]
theorem set_last {α : Type} {A : List α} (z : α) (h : A ≠ []) : A.set (A.length - 1) z = A.dropLast ++ [z] := by
  obtain ⟨B, b, rfl⟩ : ∃ B b, A = B ++ [b] := ⟨A.dropLast, A.getLast h, (List.dropLast_concat_getLast h).symm⟩
  rw [List.length_append, List.dropLast_concat]
  simp
def CombR (b : Nat) (L : List Nh) (v : Value) (w' : World) : Prop := ∃ ao c, v = .slice ao (cbS L).length c ∧ Nhs w' ao (cbS L) ∧ (cbS L).length ≤ c ∧ (ao = none → c = 0) ∧ ∀ a, ao = some a → b ≤ a.block ∧ a.block < w'.heap.size
theorem foldl_len (L : List Nh) : ∀ M, (L.foldl mrgS M).length ≤ M.length + L.length := by
  induction L with
  | nil => exact fun M => Nat.le_refl _
  | cons y L ih => exact fun M => Nat.le_trans (ih (mrgS M y)) (by have := mrgS_len M y; simp only [List.length_cons]; omega)
set_option maxHeartbeats 4000000 in
theorem combined_v {base g n cap : Nat} (L : List Nh) (w : World) (hD : Dat w base g n cap L) (hn : n ≤ 1000000) :
    Calls Try.prog 52 #[.slice (some ⟨g, 0, none⟩) n cap] w (Does (Blk1 g) (CombR w.heap.size L) w) := by
  refine V_enter (vs := [_]) Try.func52 rfl Try.ntmps52 (Nat.le_of_ble_eq_true rfl) ?_
  repeat (first | refine Vx ?_ | (apply Ops_q; (case hon => exact Va); (case hd => rfl); (case hq => exact YlA)) | refine Vr ?_ | refine Vt ?_ | refine Vf ?_ | refine Vm ?_ | refine Ve ?_ | refine Vo ?_ | refine Vz ?_ | refine Vn ?_)
  refine Ops_callM (S := Blk1 g) (R := fun _ => DatR base g n cap (fun L' => L'.Perm L ∧ Asc cmpH L' 0 n)) (by exact Va) rfl rfl (fun w_ e_ => sortStable_v ordH compareN_v (by omega) L w_ (hD.ext e_)) ?_
  rintro v w2 w1 e1 m2 ⟨rfl, M, D2, hp, hA⟩
  have m12 : Mod (Blk1 g) w w2 := (Mod.of_ext e1).trans m2
  have hMl : M.length = n := D2.len
  rw [← hMl] at hA
  have hcb : mrgL M = insA [] L := mrgL_eq hp (asc_srt hA)
  repeat (first | refine Vx ?_ | (apply Ops_q; (case hon => exact Va); (case hd => rfl); (case hq => exact YlA)) | refine Vr ?_ | refine Vt ?_ | refine Vf ?_ | refine Vm ?_ | refine Ve ?_ | refine Vo ?_ | refine Vz ?_ | refine Vn ?_)
  refine V_loop (fun z : Nat × Value => [(11, .int .i64 z.1), (10, .int .i64 n), (9, .slice (some ⟨g, 0, none⟩) n cap), (3, z.2)])
    (fun z w' => Ext w2 w' ∧ z.1 ≤ n ∧ Own w' w2.heap.size 48 6 z.2 (((M.take z.1).foldl mrgS []).map Nh.cells)) (fun z => n - z.1) (0, .slice none 0 0) (by repeat (first | exact trivial | refine ⟨rfl, ?_⟩)) ⟨Ext.refl _, Nat.zero_le _, Own.nil⟩ ?_
  rintro ⟨k, v⟩ w3 ⟨x3, hk, o3⟩
  dsimp only at hk o3 ⊢
  repeat (first | refine Vx ?_ | (apply Ops_q; (case hon => exact Va); (case hd => rfl); (case hq => exact YlA)) | refine Vr ?_ | refine Vt ?_ | refine Vf ?_ | refine Vm ?_ | refine Ve ?_ | refine Vo ?_ | refine Vz ?_ | refine Vn ?_)
  refine V_cond rfl (fun hg => ?_) (fun hg => ?_)
  · have hkn : k < n := by have := of_decide_eq_true hg; omega
    clear hg
    obtain ⟨y, hy⟩ : ∃ z, M[k]? = some z := ⟨_, List.getElem?_eq_getElem (by omega)⟩
    have hcy := (D2.ext x3).at hy
    unfold Nh.cells at hcy
    have hstep : (M.take (k + 1)).foldl mrgS [] = mrgS ((M.take k).foldl mrgS []) y := by rw [List.take_add_one, hy, List.foldl_append]; rfl
    have hAl : ((M.take k).foldl mrgS []).length ≤ 1000000 := Nat.le_trans (foldl_len _ _) (by rw [List.length_take]; simp only [List.length_nil]; omega)
    generalize (M.take k).foldl mrgS [] = A at *
    repeat (first | refine Vx ?_ | (apply Ops_q; (case hon => exact Va); (case hd => rfl); (case hq => exact YlA)) | refine Vr ?_ | refine Vt ?_ | refine Vf ?_ | refine Vm ?_ | refine Ve ?_ | refine Vo ?_ | refine Vz ?_ | refine Vn ?_)
    (apply Ops_q; (case hon => (exact Va)); (case hd => rfl); (case hq => exact Yl_indexS (j := k) rfl rfl (by omega)))
    repeat (first | refine Vx ?_ | (apply Ops_q; (case hon => exact Va); (case hd => rfl); (case hq => exact YlA)) | refine Vr ?_ | refine Vt ?_ | refine Vf ?_ | refine Vm ?_ | refine Ve ?_ | refine Vo ?_ | refine Vz ?_ | refine Vn ?_)
    (refine Ops_alloc (by exact Va) rfl ?_; intro w4 b5 n_b5; have k_b5 := n_b5.blk)
    repeat (first | refine Vx ?_ | (apply Ops_q; (case hon => exact Va); (case hd => rfl); (case hq => exact YlA)) | refine Vr ?_ | refine Vt ?_ | refine Vf ?_ | refine Vm ?_ | refine Ve ?_ | refine Vo ?_ | refine Vz ?_ | refine Vn ?_)
    (refine Ops_store (by exact Va) rfl rfl (by assumption) (by first | rfl | exact OneAll.h) ?_; intro w5 u_w5; have k_b5 := u_w5.blk)
    have y5 := u_w5.below n_b5.ext n_b5.ge
    have g5 : w3.heap.size ≤ b5 := n_b5.ge
    have x5 := x3.trans y5
    have o5 := o3.ext y5
    clear u_w5 n_b5 hcy
    obtain ⟨ao, c, hv, hAr⟩ := o5.slice
    rw [List.length_map] at hv
    rw [hv]
    by_cases hne : A = []
    · have h0 : A.length = 0 := by rw [hne]; rfl
      have d1 : decide ((A.length : Int) - 1 < 0) = true := decide_eq_true (by omega)
      repeat (first | refine Vx ?_ | (apply Ops_q; (case hon => exact Va); (case hd => rfl); (case hq => exact YlA)) | refine Vr ?_ | refine Vt ?_ | refine Vf ?_ | refine Vm ?_ | refine Ve ?_ | refine Vo ?_ | refine Vz ?_ | refine Vn ?_)
      refine Ops_know rfl rfl d1 ?_
      repeat (first | refine Vx ?_ | (apply Ops_q; (case hon => exact Va); (case hd => rfl); (case hq => exact YlA)) | refine Vr ?_ | refine Vt ?_ | refine Vf ?_ | refine Vm ?_ | refine Ve ?_ | refine Vo ?_ | refine Vz ?_ | refine Vn ?_)
      (refine Ops_lit (by exact Va) rfl rfl rfl ?_; intro w6 bl n_bl; have k_bl := n_bl.blk)
      rw [← hv]
      have o6 := o5.ext n_bl.ext
      have x6 := x5.trans n_bl.ext
      have hlen : (A.map Nh.cells).length ≤ 1000000 := by rw [List.length_map]; exact hAl
      repeat (first | refine Vx ?_ | (apply Ops_q; (case hon => exact Va); (case hd => rfl); (case hq => exact YlA)) | refine Vr ?_ | refine Vt ?_ | refine Vf ?_ | refine Vm ?_ | refine Ve ?_ | refine Vo ?_ | refine Vz ?_ | refine Vn ?_)
      (refine Ops_append1 (by exact Va) rfl rfl rfl rfl o6 k_bl.cells inferInstance inferInstance (by first | omega | (rw [List.length_map]; omega)) rfl x6.size ?_; intro v' w7 o_v' g_w7 d_v')
      have x7 := grow_below x6 g_w7 (fun c hc => o6.ge hc)
      repeat (first | refine Vx ?_ | (apply Ops_q; (case hon => exact Va); (case hd => rfl); (case hq => exact YlA)) | refine Vr ?_ | refine Vt ?_ | refine Vf ?_ | refine Vm ?_ | refine Ve ?_ | refine Vo ?_ | refine Vz ?_ | refine Vn ?_)
      refine ⟨(k + 1, v'), (by repeat (first | exact trivial | refine ⟨rfl, ?_⟩)), ⟨x7, hkn, ?_⟩, by simp only; omega⟩
      dsimp only
      rw [hstep, (show mrgS A y = A ++ [y] by rw [hne]; rfl), List.map_append]
      exact o_v'
    · have hpos : 0 < A.length := List.length_pos_iff.2 hne
      have d1 : decide (((A.length - 1 : Nat) : Int) < 0) = false := decide_eq_false (by omega)
      have ek : (A.length : Int) - 1 = ((A.length - 1 : Nat) : Int) := by omega
      obtain ⟨x, hx⟩ : ∃ z, A[A.length - 1]? = some z := ⟨_, List.getElem?_eq_getElem (by omega)⟩
      have hl : A.getLast? = some x := by rw [List.getLast?_eq_getElem?]; exact hx
      obtain ⟨g', c', hv', hge, _, _⟩ := o5.addr (by simpa using hne)
      rw [List.length_map] at hv'
      obtain ⟨rfl, rfl⟩ : ao = some ⟨g', 0, none⟩ ∧ c = c' := by
        have := hv.symm.trans hv'
        cases this; exact ⟨rfl, rfl⟩
      clear hv'
      obtain ⟨ad, ea, hcx⟩ := hAr (A.length - 1) x.cells (by rw [List.getElem?_map, hx]; rfl)
      cases ea
      unfold Nh.cells at hcx
      repeat (first | refine Vx ?_ | (apply Ops_q; (case hon => exact Va); (case hd => rfl); (case hq => exact YlA)) | refine Vr ?_ | refine Vt ?_ | refine Vf ?_ | refine Vm ?_ | refine Ve ?_ | refine Vo ?_ | refine Vz ?_ | refine Vn ?_)
      rw [ek]
      refine Ops_know rfl rfl d1 ?_
      repeat (first | refine Vx ?_ | (apply Ops_q; (case hon => exact Va); (case hd => rfl); (case hq => exact YlA)) | refine Vr ?_ | refine Vt ?_ | refine Vf ?_ | refine Vm ?_ | refine Ve ?_ | refine Vo ?_ | refine Vz ?_ | refine Vn ?_)
      (apply Ops_q; (case hon => (exact Va)); (case hd => rfl); (case hq => exact Yl_indexS (j := A.length - 1) rfl rfl (by omega)))
      repeat (first | refine Vx ?_ | (apply Ops_q; (case hon => exact Va); (case hd => rfl); (case hq => exact YlA)) | refine Vr ?_ | refine Vt ?_ | refine Vf ?_ | refine Vm ?_ | refine Ve ?_ | refine Vo ?_ | refine Vz ?_ | refine Vn ?_)
      (apply Ops_q; (case hon => (exact Va)); (case hd => rfl); (case hq => exact Yl_call rfl (fun w_ e_ => compareN_v x y w_)))
      repeat (first | refine Vx ?_ | (apply Ops_q; (case hon => exact Va); (case hd => rfl); (case hq => exact YlA)) | refine Vr ?_ | refine Vt ?_ | refine Vf ?_ | refine Vm ?_ | refine Ve ?_ | refine Vo ?_ | refine Vz ?_ | refine Vn ?_)
      by_cases t1 : cmpH x y = 0
      · have d2 : (!decide (cmpH x y = 0)) = false := by rw [decide_eq_true t1]; rfl
        refine V_no rfl d2 ?_
        have hsg : mrgS A y = A.dropLast ++ [mrgH x y] := by unfold mrgS; rw [hl]; dsimp only; rw [if_neg (fun h => h t1)]
        have hg3 : g' < w3.heap.size := o3.lt (by rw [hv]; rfl)
        have ne5 : b5 ≠ g' := by omega
        have q3 := hcx 3 _ rfl
        rw [hv] at o5
        clear hcx
        repeat (first | refine Vx ?_ | (apply Ops_q; (case hon => exact Va); (case hd => rfl); (case hq => exact YlA)) | refine Vr ?_ | refine Vt ?_ | refine Vf ?_ | refine Vm ?_ | refine Ve ?_ | refine Vo ?_ | refine Vz ?_ | refine Vn ?_)
        refine V_region_mixed 10 (by kernel_rfl) (by kernel_rfl) rfl ?_
        repeat (first | refine Vx ?_ | (apply Ops_q; (case hon => exact Va); (case hd => rfl); (case hq => exact YlA)) | refine Vr ?_ | refine Vt ?_ | refine Vf ?_ | refine Vm ?_ | refine Ve ?_ | refine Vo ?_ | refine Vz ?_ | refine Vn ?_)
        (apply Ops_q; (case hon => (exact Va)); (case hd => rfl); (case hq => exact Yl_indexS (j := A.length - 1) rfl rfl (by omega)))
        repeat (first | refine Vx ?_ | (apply Ops_q; (case hon => exact Va); (case hd => rfl); (case hq => exact YlA)) | refine Vr ?_ | refine Vt ?_ | refine Vf ?_ | refine Vm ?_ | refine Ve ?_ | refine Vo ?_ | refine Vz ?_ | refine Vn ?_)
        (apply Ops_q; (case hon => (exact Va)); (case hd => rfl); (case hq => exact Yl_indexS (j := A.length - 1) rfl rfl (by omega)))
        repeat (first | refine Vx ?_ | (apply Ops_q; (case hon => exact Va); (case hd => rfl); (case hq => exact YlA)) | refine Vr ?_ | refine Vt ?_ | refine Vf ?_ | refine Vm ?_ | refine Ve ?_ | refine Vo ?_ | refine Vz ?_ | refine Vn ?_)
        refine Ops_storePart (i := A.length - 1) (f := 3) (xi := x.cells) (L := A.map Nh.cells) (by exact Va) rfl rfl (addr_two g' ((A.length - 1) * 6) 3) (by rw [List.length_map]; exact o5) (by rw [List.getElem?_map, hx]; rfl) (by decide) rfl ?_
        intro w6 o6 u6
        have e6 : (A.map Nh.cells).set (A.length - 1) (splice x.cells 3 [.int .i64 (max x.weight y.weight)]) = (A.dropLast ++ [(⟨x.addr, x.iface, x.router, max x.weight y.weight, x.via⟩ : Nh)]).map Nh.cells := by
          rw [← set_last _ hne, List.map_set]; rfl
        rw [e6, List.length_map] at o6
        have k56 := grow_blk u6 k_b5 (fun e => ne5 (Option.some.inj e))
        have x6 := grow_below x5 u6 (fun c hc => by cases hc; exact hge)
        have hdl : (A.dropLast ++ [(⟨x.addr, x.iface, x.router, max x.weight y.weight, x.via⟩ : Nh)])[A.length - 1]? = some ⟨x.addr, x.iface, x.router, max x.weight y.weight, x.via⟩ := by
          rw [← set_last _ hne, List.getElem?_set, if_pos rfl, if_pos (by omega)]
        obtain ⟨ao6, c6, e6', hA6⟩ := o6.slice
        obtain ⟨ad6, ea6, hc6⟩ := hA6 (A.length - 1) _ (by rw [List.getElem?_map, hdl]; rfl)
        have hlz : (A.dropLast ++ [(⟨x.addr, x.iface, x.router, max x.weight y.weight, x.via⟩ : Nh)]).length = A.length := by rw [← set_last _ hne, List.length_set]
        rw [List.length_map, hlz] at e6'
        cases e6'
        cases ea6
        have qb : Cells w6 ⟨b5, 4, none⟩ [.int .u32 y.via.a, .int .i64 y.via.n] := k56.part 4 2
        have qx : Cells w6 (((⟨g', 0, none⟩ : Addr).add ((A.length - 1) * 6)).add 4) [.int .u32 x.via.a, .int .i64 x.via.n] := hc6.sub 4 2
        clear hc6 k_b5 o5 q3
        repeat (first | refine Vx ?_ | (apply Ops_q; (case hon => exact Va); (case hd => rfl); (case hq => exact YlA)) | refine Vr ?_ | refine Vt ?_ | refine Vf ?_ | refine Vm ?_ | refine Ve ?_ | refine Vo ?_ | refine Vz ?_ | refine Vn ?_)
        (apply Ops_q; (case hon => (exact Va)); (case hd => rfl); (case hq => exact Yl_indexS (j := A.length - 1) rfl rfl (by omega)))
        repeat (first | refine Vx ?_ | (apply Ops_q; (case hon => exact Va); (case hd => rfl); (case hq => exact YlA)) | refine Vr ?_ | refine Vt ?_ | refine Vf ?_ | refine Vm ?_ | refine Ve ?_ | refine Vo ?_ | refine Vz ?_ | refine Vn ?_)
        (apply Ops_q; (case hon => (exact Va)); (case hd => rfl); (case hq => exact Yl_call rfl (fun w_ e_ => compareP_v y.via x.via w_)))
        repeat (first | refine Vx ?_ | (apply Ops_q; (case hon => exact Va); (case hd => rfl); (case hq => exact YlA)) | refine Vr ?_ | refine Vt ?_ | refine Vf ?_ | refine Vm ?_ | refine Ve ?_ | refine Vo ?_ | refine Vz ?_ | refine Vn ?_)
        by_cases t2 : cmpP y.via x.via < 0
        · have d3 : decide (cmpP y.via x.via < 0) = true := decide_eq_true t2
          refine V_yes rfl d3 ?_
          clear qx
          repeat (first | refine Vx ?_ | (apply Ops_q; (case hon => exact Va); (case hd => rfl); (case hq => exact YlA)) | refine Vr ?_ | refine Vt ?_ | refine Vf ?_ | refine Vm ?_ | refine Ve ?_ | refine Vo ?_ | refine Vz ?_ | refine Vn ?_)
          (apply Ops_q; (case hon => (exact Va)); (case hd => rfl); (case hq => exact Yl_indexS (j := A.length - 1) rfl rfl (by omega)))
          repeat (first | refine Vx ?_ | (apply Ops_q; (case hon => exact Va); (case hd => rfl); (case hq => exact YlA)) | refine Vr ?_ | refine Vt ?_ | refine Vf ?_ | refine Vm ?_ | refine Ve ?_ | refine Vo ?_ | refine Vz ?_ | refine Vn ?_)
          refine Ops_storePart (i := A.length - 1) (f := 4) (L := (A.dropLast ++ [(⟨x.addr, x.iface, x.router, max x.weight y.weight, x.via⟩ : Nh)]).map Nh.cells) (by exact Va) rfl rfl (addr_two g' ((A.length - 1) * 6) 4) (by rw [List.length_map, hlz]; exact o6) (by rw [List.getElem?_map, hdl]; rfl) (by decide) rfl ?_
          intro w7 o7 u7
          have e7 : ((A.dropLast ++ [(⟨x.addr, x.iface, x.router, max x.weight y.weight, x.via⟩ : Nh)]).map Nh.cells).set (A.length - 1) (splice (⟨x.addr, x.iface, x.router, max x.weight y.weight, x.via⟩ : Nh).cells 4 [.int .u32 y.via.a, .int .i64 y.via.n]) = (A.dropLast ++ [mrgH x y]).map Nh.cells := by
            rw [← set_last _ hne, ← set_last _ hne]
            unfold mrgH
            rw [if_pos t2]
            simp only [List.map_set, List.set_set]
            rfl
          have x7 := grow_below x6 u7 (fun c hc => by cases hc; exact hge)
          repeat (first | refine Vx ?_ | (apply Ops_q; (case hon => exact Va); (case hd => rfl); (case hq => exact YlA)) | refine Vr ?_ | refine Vt ?_ | refine Vf ?_ | refine Vm ?_ | refine Ve ?_ | refine Vo ?_ | refine Vz ?_ | refine Vn ?_)
          refine ⟨(k + 1, .slice (some ⟨g', 0, none⟩) A.length c), (by repeat (first | exact trivial | refine ⟨rfl, ?_⟩)), ⟨x7, hkn, ?_⟩, by simp only; omega⟩
          dsimp only
          rw [hstep, hsg, ← e7]
          rw [List.length_map, hlz] at o7
          exact o7
        · have d3 : decide (cmpP y.via x.via < 0) = false := decide_eq_false t2
          refine V_no rfl d3 ?_
          repeat (first | refine Vx ?_ | (apply Ops_q; (case hon => exact Va); (case hd => rfl); (case hq => exact YlA)) | refine Vr ?_ | refine Vt ?_ | refine Vf ?_ | refine Vm ?_ | refine Ve ?_ | refine Vo ?_ | refine Vz ?_ | refine Vn ?_)
          refine ⟨(k + 1, .slice (some ⟨g', 0, none⟩) A.length c), (by repeat (first | exact trivial | refine ⟨rfl, ?_⟩)), ⟨x6, hkn, ?_⟩, by simp only; omega⟩
          dsimp only
          rw [hstep, hsg]
          unfold mrgH
          rw [if_neg t2]
          exact o6
      · have d2 : (!decide (cmpH x y = 0)) = true := by rw [decide_eq_false t1]; rfl
        refine V_yes rfl d2 ?_
        repeat (first | refine Vx ?_ | (apply Ops_q; (case hon => exact Va); (case hd => rfl); (case hq => exact YlA)) | refine Vr ?_ | refine Vt ?_ | refine Vf ?_ | refine Vm ?_ | refine Ve ?_ | refine Vo ?_ | refine Vz ?_ | refine Vn ?_)
        (refine Ops_lit (by exact Va) rfl rfl rfl ?_; intro w6 bl n_bl; have k_bl := n_bl.blk)
        rw [← hv]
        have o6 := o5.ext n_bl.ext
        have x6 := x5.trans n_bl.ext
        have hlen : (A.map Nh.cells).length ≤ 1000000 := by rw [List.length_map]; exact hAl
        repeat (first | refine Vx ?_ | (apply Ops_q; (case hon => exact Va); (case hd => rfl); (case hq => exact YlA)) | refine Vr ?_ | refine Vt ?_ | refine Vf ?_ | refine Vm ?_ | refine Ve ?_ | refine Vo ?_ | refine Vz ?_ | refine Vn ?_)
        (refine Ops_append1 (by exact Va) rfl rfl rfl rfl o6 k_bl.cells inferInstance inferInstance (by first | omega | (rw [List.length_map]; omega)) rfl x6.size ?_; intro v' w7 o_v' g_w7 d_v')
        have x7 := grow_below x6 g_w7 (fun c hc => o6.ge hc)
        repeat (first | refine Vx ?_ | (apply Ops_q; (case hon => exact Va); (case hd => rfl); (case hq => exact YlA)) | refine Vr ?_ | refine Vt ?_ | refine Vf ?_ | refine Vm ?_ | refine Ve ?_ | refine Vo ?_ | refine Vz ?_ | refine Vn ?_)
        refine ⟨(k + 1, v'), (by repeat (first | exact trivial | refine ⟨rfl, ?_⟩)), ⟨x7, hkn, ?_⟩, by simp only; omega⟩
        dsimp only
        rw [hstep, (show mrgS A y = A ++ [y] by unfold mrgS; rw [hl]; exact if_pos t1), List.map_append]
        exact o_v'
  · obtain rfl : k = n := by have := of_decide_eq_false hg; omega
    rw [← hMl, List.take_length] at o3
    have e3 : M.foldl mrgS [] = insA [] L := hcb
    rw [e3] at o3
    obtain ⟨ao, c, rfl, hA3, hlc, hnc⟩ := o3.slice2
    rw [List.length_map] at hlc
    rw [List.length_map]
    have hmin : (min ((insA [] L).length : Int) 64) = ((cbS L).length : Int) := by unfold cbS; rw [List.length_take]; omega
    have hle : (cbS L).length ≤ (insA [] L).length := by unfold cbS; rw [List.length_take]; omega
    repeat (first | refine Vx ?_ | (apply Ops_q; (case hon => exact Va); (case hd => rfl); (case hq => exact YlA)) | refine Vr ?_ | refine Vt ?_ | refine Vf ?_ | refine Vm ?_ | refine Ve ?_ | refine Vo ?_ | refine Vz ?_ | refine Vn ?_)
    rw [hmin]
    (apply Ops_q; (case hon => (exact Va)); (case hd => rfl); (case hq => exact Yl_sliceHr (i := (cbS L).length) rfl rfl hle hlc))
    repeat (first | refine Vx ?_ | (apply Ops_q; (case hon => exact Va); (case hd => rfl); (case hq => exact YlA)) | refine Vr ?_ | refine Vt ?_ | refine Vf ?_ | refine Vm ?_ | refine Ve ?_ | refine Vo ?_ | refine Vz ?_ | refine Vn ?_)
    refine ret1 (by first | exact .inl rfl | exact .inr rfl) rfl rfl ?_
    refine Does_mk (fun w' he => ⟨ao, c, rfl, ?_, by omega, hnc, fun a ha => ?_⟩) (m12.ext x3)
    · have : Nhs w' ao ((insA [] L).take 64) := by unfold Nhs; rw [List.map_take]; exact (hA3.ext he).take 64
      exact this
    · subst ha
      exact ⟨Nat.le_trans m12.size (o3.ge rfl), Nat.lt_of_lt_of_le (o3.lt rfl) he.size⟩
end Go.Proofs.Ytkdjbddjblahkaa

/-
  Routes (layer 49): the reference's combined: a hop is inserted.
  Conditions: the list is one's own, and not too long for a machine.
-/
namespace Go.Proofs.Ytkdjbddjblahkaa
open Go.RowKit

theorem ins_hit : ∀ {M : List Nh} {i : Nat} {x y : Nh}, Up M → M[i]? = some x → cmpH x y = 0 → ins y M = M.set i (mrgH x y)
  | [], i, x, y, _, h, _ => by simp at h
  | z :: M, 0, x, y, _, h, h2 => by
    simp at h; subst h
    rw [ins_eq h2, List.set_cons_zero]
  | z :: M, i + 1, x, y, hu, h, h2 => by
    have hu2 := List.pairwise_cons.1 hu
    rw [List.getElem?_cons_succ] at h
    have h3 := hu2.1 x (List.mem_of_getElem? h)
    rw [ins_gt ((cmpH_key h2).2.1.1 h3), ins_hit hu2.2 h h2, List.set_cons_succ]
theorem ins_at : ∀ {M : List Nh} {k : Nat} {y : Nh}, Up M → k ≤ M.length → (∀ x ∈ M, ¬cmpH x y = 0) → (∀ x ∈ M.drop k, cmpH y x < 0) → (k = 0 ∨ ∃ x, M[k - 1]? = some x ∧ ¬cmpH y x < 0) → ins y M = M.take k ++ y :: M.drop k
  | [], k, y, _, hk, _, _, _ => by
    have : k = 0 := by simpa using hk
    subst this; rfl
  | z :: M, 0, y, _, _, _, hd, _ => ins_lt (hd z List.mem_cons_self)
  | z :: M, k + 1, y, hu, hk, hn, hd, hx => by
    have hu2 := List.pairwise_cons.1 hu
    obtain ⟨x, h1, h2⟩ := hx.resolve_left (Nat.succ_ne_zero k)
    rw [Nat.add_sub_cancel] at h1
    have hxy : cmpH x y < 0 := by
      rcases cmpH_tri x y with h | h | h
      · exact h
      · exact absurd h (hn x (List.mem_of_getElem? h1))
      · exact absurd h h2
    have ih := fun hh => ins_at (M := M) (k := k) (y := y) hu2.2 (by simpa using hk) (fun x hx => hn x (List.mem_cons_of_mem _ hx)) (by simpa using hd) hh
    rw [List.take_succ_cons, List.drop_succ_cons, List.cons_append]
    cases k with
    | zero =>
      simp at h1; subst h1
      rw [ins_gt hxy, ih (.inl rfl)]
    | succ k =>
      rw [List.getElem?_cons_succ] at h1
      have hz := cmpH_trans (hu2.1 x (List.mem_of_getElem? h1)) hxy
      rw [ins_gt hz, ih (.inr ⟨x, by rw [Nat.add_sub_cancel]; exact h1, h2⟩)]
theorem swap_ins (A B : List Nh) (y h : Nh) : ((A ++ [y] ++ h :: B).set (A.length + 1) y).set A.length h = A ++ h :: y :: B := by
  simp
theorem swap_at {L : List Nh} {j : Nat} {y h : Nh} (hy : L[j]? = some y) : ((L.take (j + 1) ++ h :: L.drop (j + 1)).set (j + 1) y).set j h = L.take j ++ h :: L.drop j := by
  have hj := (List.getElem?_eq_some_iff.1 hy).1
  have hl : (L.take j).length = j := by rw [List.length_take]; omega
  have h1 : L.take (j + 1) = L.take j ++ [y] := by rw [List.take_add_one, hy]; rfl
  have h2 : L.drop j = y :: L.drop (j + 1) := by rw [List.drop_eq_getElem_cons hj, (List.getElem?_eq_some_iff.1 hy).2]
  have := swap_ins (L.take j) (L.drop (j + 1)) y h
  rw [hl] at this
  rw [h1, h2, this]
/-- What combined leaves: the list is M, in the block of v or a new one. -/
def CmbR (base : Nat) (v : Value) (M : List Nh) (w : World) (v' : Value) (w' : World) : Prop := Own w' base 48 6 v' (M.map Nh.cells) ∧ (v'.ownBlock = v.ownBlock ∨ ∃ b, v'.ownBlock = some b ∧ w.heap.size ≤ b)
set_option maxHeartbeats 4000000 in
theorem combined49_v {base : Nat} (v : Value) (L : List Nh) (h : Nh) (w : World) (hO : Own w base 48 6 v (L.map Nh.cells)) (hu : Up L) (hn : L.length ≤ 100000) (hb : base ≤ w.heap.size) :
    Calls Try.prog 56 #[v, h.val] w (Does (fun c => v.ownBlock = some c) (CmbR base v (ins h L) w) w) := by
  obtain ⟨ao, c, rfl, hA⟩ := hO.slice
  rw [List.length_map] at hO ⊢
  refine V_enter (vs := [_, _]) Try.func56 rfl Try.ntmps56 (Nat.le_of_ble_eq_true rfl) ?_
  repeat (first | refine Vx ?_ | (apply Ops_q; (case hon => exact Va); (case hd => rfl); (case hq => exact YlA)) | refine Vr ?_ | refine Vt ?_ | refine Vf ?_ | refine Vm ?_ | refine Ve ?_ | refine Vo ?_ | refine Vz ?_ | refine Vn ?_)
  (refine Ops_box (by exact Va) rfl rfl rfl ?_; intro w1 b3 n_b3; have k_b3 := n_b3.blk)
  have x1 := n_b3.ext
  have g3 := n_b3.ge
  clear n_b3
  have kk3 := k_b3
  repeat (first | refine Vx ?_ | (apply Ops_q; (case hon => exact Va); (case hd => rfl); (case hq => exact YlA)) | refine Vr ?_ | refine Vt ?_ | refine Vf ?_ | refine Vm ?_ | refine Ve ?_ | refine Vo ?_ | refine Vz ?_ | refine Vn ?_)
  refine V_loop (fun k : Nat => [(11, .int .i64 k), (10, .int .i64 L.length), (9, .slice ao L.length c), (0, .slice ao L.length c), (3, .pointer (some ⟨b3, 0, none⟩))])
    (fun k w' => Ext w1 w' ∧ k ≤ L.length ∧ ∀ x ∈ L.take k, ¬cmpH x h = 0) (fun k => L.length - k) 0 (by repeat (first | exact trivial | refine ⟨rfl, ?_⟩)) ⟨Ext.refl _, Nat.zero_le _, fun _ hx => by cases hx⟩ ?_
  clear k_b3
  rintro k w2 ⟨x2, hk, hs⟩
  repeat (first | refine Vx ?_ | (apply Ops_q; (case hon => exact Va); (case hd => rfl); (case hq => exact YlA)) | refine Vr ?_ | refine Vt ?_ | refine Vf ?_ | refine Vm ?_ | refine Ve ?_ | refine Vo ?_ | refine Vz ?_ | refine Vn ?_)
  refine V_cond rfl (fun hg => ?_) (fun hg => ?_)
  · have hkl : k < L.length := by have := of_decide_eq_true hg; omega
    clear hg
    obtain ⟨x, hx⟩ : ∃ z, L[k]? = some z := ⟨_, List.getElem?_eq_getElem hkl⟩
    have hne : L ≠ [] := fun e => by rw [e] at hkl; exact absurd hkl (Nat.not_lt_zero _)
    obtain ⟨g, c', hv', hge, hlt, _⟩ := hO.addr (by simpa using hne)
    injection hv' with e1 e2 e3
    subst e1; subst e3
    clear e2
    obtain ⟨ad, ea, hcx⟩ := Nhs.at hA hx
    cases ea
    have hcx2 := hcx.ext (x1.trans x2)
    have k3 := kk3.ext x2
    repeat (first | refine Vx ?_ | (apply Ops_q; (case hon => exact Va); (case hd => rfl); (case hq => exact YlA)) | refine Vr ?_ | refine Vt ?_ | refine Vf ?_ | refine Vm ?_ | refine Ve ?_ | refine Vo ?_ | refine Vz ?_ | refine Vn ?_)
    (apply Ops_q; (case hon => (exact Va)); (case hd => rfl); (case hq => exact Yl_indexS (j := k) rfl rfl (by omega)))
    repeat (first | refine Vx ?_ | (apply Ops_q; (case hon => exact Va); (case hd => rfl); (case hq => exact YlA)) | refine Vr ?_ | refine Vt ?_ | refine Vf ?_ | refine Vm ?_ | refine Ve ?_ | refine Vo ?_ | refine Vz ?_ | refine Vn ?_)
    (refine Ops_alloc (by exact Va) rfl ?_; intro w3 b6 n_b6; have k_b6 := n_b6.blk)
    repeat (first | refine Vx ?_ | (apply Ops_q; (case hon => exact Va); (case hd => rfl); (case hq => exact YlA)) | refine Vr ?_ | refine Vt ?_ | refine Vf ?_ | refine Vm ?_ | refine Ve ?_ | refine Vo ?_ | refine Vz ?_ | refine Vn ?_)
    (refine Ops_store (by exact Va) rfl rfl (by assumption) (by first | rfl | exact OneAll.h) ?_; intro w4 u_w4; have k_b6 := u_w4.blk)
    have y4 := u_w4.below n_b6.ext n_b6.ge
    have g6 := n_b6.ge
    have x4 := x2.trans y4
    replace k3 := k3.ext y4
    clear u_w4 n_b6 hcx2 hcx
    repeat (first | refine Vx ?_ | (apply Ops_q; (case hon => exact Va); (case hd => rfl); (case hq => exact YlA)) | refine Vr ?_ | refine Vt ?_ | refine Vf ?_ | refine Vm ?_ | refine Ve ?_ | refine Vo ?_ | refine Vz ?_ | refine Vn ?_)
    by_cases t1 : x.addr = h.addr
    · have d1 : decide ((x.addr : Int) = (h.addr : Int)) = true := decide_eq_true (by omega)
      refine Ops_know rfl rfl d1 ?_
      repeat (first | refine Vx ?_ | (apply Ops_q; (case hon => exact Va); (case hd => rfl); (case hq => exact YlA)) | refine Vr ?_ | refine Vt ?_ | refine Vf ?_ | refine Vm ?_ | refine Ve ?_ | refine Vo ?_ | refine Vz ?_ | refine Vn ?_)
      by_cases t2 : x.iface = h.iface
      · have d2 : decide (x.iface = h.iface) = true := decide_eq_true t2
        refine Ops_know rfl rfl d2 ?_
        repeat (first | refine Vx ?_ | (apply Ops_q; (case hon => exact Va); (case hd => rfl); (case hq => exact YlA)) | refine Vr ?_ | refine Vt ?_ | refine Vf ?_ | refine Vm ?_ | refine Ve ?_ | refine Vo ?_ | refine Vz ?_ | refine Vn ?_)
        by_cases t3 : x.router = h.router
        · have d3 : decide ((x.router : Int) = (h.router : Int)) = true := decide_eq_true (by omega)
          refine V_yes rfl d3 ?_
          have hz : cmpH x h = 0 := cmpH_zero.2 ⟨t1, t2, t3⟩
          have hins := ins_hit hu hx hz
          have o4 := hO.ext (x1.trans x4)
          have s2 := x2.size
          have s1 := x1.size
          repeat (first | refine Vx ?_ | (apply Ops_q; (case hon => exact Va); (case hd => rfl); (case hq => exact YlA)) | refine Vr ?_ | refine Vt ?_ | refine Vf ?_ | refine Vm ?_ | refine Ve ?_ | refine Vo ?_ | refine Vz ?_ | refine Vn ?_)
          (apply Ops_q; (case hon => (exact Va)); (case hd => rfl); (case hq => exact Yl_indexS (j := k) rfl rfl (by omega)))
          repeat (first | refine Vx ?_ | (apply Ops_q; (case hon => exact Va); (case hd => rfl); (case hq => exact YlA)) | refine Vr ?_ | refine Vt ?_ | refine Vf ?_ | refine Vm ?_ | refine Ve ?_ | refine Vo ?_ | refine Vz ?_ | refine Vn ?_)
          refine Ops_storePart (i := k) (f := 3) (xi := x.cells) (L := L.map Nh.cells) (by exact Va) rfl rfl (addr_two g (k * 6) 3) (by rw [List.length_map]; exact o4) (by rw [List.getElem?_map, hx]; rfl) (by decide) rfl ?_
          intro w6 o6 u6
          have e6 : (L.map Nh.cells).set k (splice x.cells 3 [.int .i64 (max x.weight h.weight)]) = (L.set k (⟨x.addr, x.iface, x.router, max x.weight h.weight, x.via⟩ : Nh)).map Nh.cells := by
            rw [List.map_set]; rfl
          rw [e6, List.length_map] at o6
          have k36 := grow_blk u6 k3 (fun e => by cases e; omega)
          have k66 := grow_blk u6 k_b6 (fun e => by cases e; omega)
          have m6 : Mod (fun c' => (Value.slice (some ⟨g, 0, none⟩) L.length c).ownBlock = some c') w w6 := (Mod.of_ext (x1.trans x4)).grow u6 (fun b hb => .inl (by cases hb; rfl))
          have q1 : Cells w6 ⟨b3, 4, none⟩ [.int .u32 h.via.a, .int .i64 h.via.n] := k36.part 4 2
          have q2 : Cells w6 ⟨b6, 4, none⟩ [.int .u32 x.via.a, .int .i64 x.via.n] := k66.part 4 2
          clear k3 k_b6 o4
          repeat (first | refine Vx ?_ | (apply Ops_q; (case hon => exact Va); (case hd => rfl); (case hq => exact YlA)) | refine Vr ?_ | refine Vt ?_ | refine Vf ?_ | refine Vm ?_ | refine Ve ?_ | refine Vo ?_ | refine Vz ?_ | refine Vn ?_)
          (apply Ops_q; (case hon => (exact Va)); (case hd => rfl); (case hq => exact Yl_call rfl (fun w_ e_ => compare_v h.via x.via w_)))
          repeat (first | refine Vx ?_ | (apply Ops_q; (case hon => exact Va); (case hd => rfl); (case hq => exact YlA)) | refine Vr ?_ | refine Vt ?_ | refine Vf ?_ | refine Vm ?_ | refine Ve ?_ | refine Vo ?_ | refine Vz ?_ | refine Vn ?_)
          by_cases t4 : cmpP h.via x.via < 0
          · have d4 : decide (cmpP h.via x.via < 0) = true := decide_eq_true t4
            refine V_yes rfl d4 ?_
            clear q2
            repeat (first | refine Vx ?_ | (apply Ops_q; (case hon => exact Va); (case hd => rfl); (case hq => exact YlA)) | refine Vr ?_ | refine Vt ?_ | refine Vf ?_ | refine Vm ?_ | refine Ve ?_ | refine Vo ?_ | refine Vz ?_ | refine Vn ?_)
            (apply Ops_q; (case hon => (exact Va)); (case hd => rfl); (case hq => exact Yl_indexS (j := k) rfl rfl (by omega)))
            repeat (first | refine Vx ?_ | (apply Ops_q; (case hon => exact Va); (case hd => rfl); (case hq => exact YlA)) | refine Vr ?_ | refine Vt ?_ | refine Vf ?_ | refine Vm ?_ | refine Ve ?_ | refine Vo ?_ | refine Vz ?_ | refine Vn ?_)
            refine Ops_storePart (i := k) (f := 4) (xi := (⟨x.addr, x.iface, x.router, max x.weight h.weight, x.via⟩ : Nh).cells) (L := (L.set k (⟨x.addr, x.iface, x.router, max x.weight h.weight, x.via⟩ : Nh)).map Nh.cells) (by exact Va) rfl rfl (addr_two g (k * 6) 4) (by rw [List.length_map, List.length_set]; exact o6) (by rw [List.getElem?_map, List.getElem?_set, if_pos rfl, if_pos hkl]; rfl) (by decide) rfl ?_
            intro w7 o7 u7
            have e7 : ((L.set k (⟨x.addr, x.iface, x.router, max x.weight h.weight, x.via⟩ : Nh)).map Nh.cells).set k (splice (⟨x.addr, x.iface, x.router, max x.weight h.weight, x.via⟩ : Nh).cells 4 [.int .u32 h.via.a, .int .i64 h.via.n]) = (L.set k (mrgH x h)).map Nh.cells := by
              unfold mrgH
              rw [if_pos t4]
              simp only [List.map_set, List.set_set]
              rfl
            rw [e7, List.length_map, List.length_set] at o7
            have m7 := m6.grow u7 (fun b hb => .inl (by cases hb; rfl))
            repeat (first | refine Vx ?_ | (apply Ops_q; (case hon => exact Va); (case hd => rfl); (case hq => exact YlA)) | refine Vr ?_ | refine Vt ?_ | refine Vf ?_ | refine Vm ?_ | refine Ve ?_ | refine Vo ?_ | refine Vz ?_ | refine Vn ?_)
            refine ret1 (by first | exact .inl rfl | exact .inr rfl) rfl rfl ?_
            exact Does_mk (fun w' he => ⟨by rw [hins]; exact o7.ext he, .inl rfl⟩) m7
          · have d4 : decide (cmpP h.via x.via < 0) = false := decide_eq_false t4
            refine V_no rfl d4 ?_
            repeat (first | refine Vx ?_ | (apply Ops_q; (case hon => exact Va); (case hd => rfl); (case hq => exact YlA)) | refine Vr ?_ | refine Vt ?_ | refine Vf ?_ | refine Vm ?_ | refine Ve ?_ | refine Vo ?_ | refine Vz ?_ | refine Vn ?_)
            refine ret1 (by first | exact .inl rfl | exact .inr rfl) rfl rfl ?_
            refine Does_mk (fun w' he => ⟨?_, .inl rfl⟩) m6
            rw [hins]
            unfold mrgH
            rw [if_neg t4]
            exact o6.ext he
        · have d3 : decide ((x.router : Int) = (h.router : Int)) = false := decide_eq_false (by omega)
          refine V_no rfl d3 ?_
          repeat (first | refine Vx ?_ | (apply Ops_q; (case hon => exact Va); (case hd => rfl); (case hq => exact YlA)) | refine Vr ?_ | refine Vt ?_ | refine Vf ?_ | refine Vm ?_ | refine Ve ?_ | refine Vo ?_ | refine Vz ?_ | refine Vn ?_)
          exact ⟨k + 1, (by repeat (first | exact trivial | refine ⟨rfl, ?_⟩)), ⟨x4, hkl, fun z hz => by
            rw [List.take_add_one, hx] at hz
            rcases List.mem_append.1 hz with hz | hz
            · exact hs z hz
            · simp at hz; subst hz; exact fun e => t3 (by have := cmpH_zero.1 e; omega)⟩, by omega⟩
      · have d2 : decide (x.iface = h.iface) = false := decide_eq_false t2
        refine Ops_know rfl rfl d2 ?_
        repeat (first | refine Vx ?_ | (apply Ops_q; (case hon => exact Va); (case hd => rfl); (case hq => exact YlA)) | refine Vr ?_ | refine Vt ?_ | refine Vf ?_ | refine Vm ?_ | refine Ve ?_ | refine Vo ?_ | refine Vz ?_ | refine Vn ?_)
        exact ⟨k + 1, (by repeat (first | exact trivial | refine ⟨rfl, ?_⟩)), ⟨x4, hkl, fun z hz => by
          rw [List.take_add_one, hx] at hz
          rcases List.mem_append.1 hz with hz | hz
          · exact hs z hz
          · simp at hz; subst hz; exact fun e => t2 (by have := cmpH_zero.1 e; omega)⟩, by omega⟩
    · have d1 : decide ((x.addr : Int) = (h.addr : Int)) = false := decide_eq_false (by omega)
      refine Ops_know rfl rfl d1 ?_
      repeat (first | refine Vx ?_ | (apply Ops_q; (case hon => exact Va); (case hd => rfl); (case hq => exact YlA)) | refine Vr ?_ | refine Vt ?_ | refine Vf ?_ | refine Vm ?_ | refine Ve ?_ | refine Vo ?_ | refine Vz ?_ | refine Vn ?_)
      exact ⟨k + 1, (by repeat (first | exact trivial | refine ⟨rfl, ?_⟩)), ⟨x4, hkl, fun z hz => by
        rw [List.take_add_one, hx] at hz
        rcases List.mem_append.1 hz with hz | hz
        · exact hs z hz
        · simp at hz; subst hz; exact fun e => t1 (by have := cmpH_zero.1 e; omega)⟩, by omega⟩
  · obtain rfl : k = L.length := by have := of_decide_eq_false hg; omega
    rw [List.take_length] at hs
    have k3 := kk3.ext x2
    repeat (first | refine Vx ?_ | (apply Ops_q; (case hon => exact Va); (case hd => rfl); (case hq => exact YlA)) | refine Vr ?_ | refine Vt ?_ | refine Vf ?_ | refine Vm ?_ | refine Ve ?_ | refine Vo ?_ | refine Vz ?_ | refine Vn ?_)
    (refine Ops_lit (by exact Va) rfl rfl rfl ?_; intro w3 bl n_bl; have k_bl := n_bl.blk)
    have x3 := (x1.trans x2).trans n_bl.ext
    have o3 := hO.ext x3
    have hcs : Cells w3 ⟨bl, 0, none⟩ h.cells := n_bl.blk.cells
    repeat (first | refine Vx ?_ | (apply Ops_q; (case hon => exact Va); (case hd => rfl); (case hq => exact YlA)) | refine Vr ?_ | refine Vt ?_ | refine Vf ?_ | refine Vm ?_ | refine Ve ?_ | refine Vo ?_ | refine Vz ?_ | refine Vn ?_)
    refine Ops_append1 (u := h.cells) (by exact Va) rfl rfl rfl rfl o3 hcs ⟨rfl⟩ ⟨rfl⟩ (by rw [List.length_map]; omega) rfl (Nat.le_trans hb x3.size) ?_
    intro v' w5 o5 g5 d5
    rw [show [h.cells] = [h].map Nh.cells from rfl, ← List.map_append] at o5
    obtain ⟨g, c', rfl, hge, hlt, _⟩ := o5.addr (by simp)
    rw [List.length_map, List.length_append, List.length_singleton] at o5 d5 ⊢
    have hD : Dat w5 base g (L.length + 1) c' (L ++ [h]) := ⟨o5, by rw [List.length_append]; rfl⟩
    have hdd : (Value.slice (some ⟨g, 0, none⟩) (L.length + 1) c').ownBlock = (Value.slice ao L.length c).ownBlock ∨ ∃ b, (Value.slice (some ⟨g, 0, none⟩) (L.length + 1) c').ownBlock = some b ∧ w.heap.size ≤ b := d5.imp id (fun ⟨b, e, h2⟩ => ⟨b, e, Nat.le_trans x3.size h2⟩)
    have hS : ∀ c0, Blk1 g c0 → (Value.slice ao L.length c).ownBlock = some c0 ∨ w.heap.size ≤ c0 := fun c0 e => by
      subst e
      rcases hdd with h1 | ⟨b, h1, h2⟩
      · exact .inl h1.symm
      · cases h1; exact .inr h2
    have m5 : Mod (fun c0 => (Value.slice ao L.length c).ownBlock = some c0) w w5 := (Mod.of_ext x3).grow g5 (fun b hb => .inl hb)
    clear n_bl hcs o3 g5 d5 k3 k_bl
    have ek : ((L.length + 1 : Nat) : Int) - 1 = (L.length : Int) := by omega
    repeat (first | refine Vx ?_ | (apply Ops_q; (case hon => exact Va); (case hd => rfl); (case hq => exact YlA)) | refine Vr ?_ | refine Vt ?_ | refine Vf ?_ | refine Vm ?_ | refine Ve ?_ | refine Vo ?_ | refine Vz ?_ | refine Vn ?_)
    rw [ek]
    refine V_loop (fun k : Nat => [(7, .int .i64 k), (0, .slice (some ⟨g, 0, none⟩) (L.length + 1) c')])
      (fun k w' => Mod (Blk1 g) w5 w' ∧ k ≤ L.length ∧ Dat w' base g (L.length + 1) c' (L.take k ++ h :: L.drop k) ∧ ∀ x ∈ L.drop k, cmpH h x < 0) (fun k => k) L.length (by repeat (first | exact trivial | refine ⟨rfl, ?_⟩)) ⟨.of_ext (Ext.refl _), Nat.le_refl _, by rw [List.take_length, List.drop_length]; exact hD, fun x hx => by rw [List.drop_length] at hx; cases hx⟩ ?_
    clear hD o5
    rintro k w6 ⟨m6, hk, hD, hd⟩
    cases k with
    | zero =>
      repeat (first | refine Vx ?_ | (apply Ops_q; (case hon => exact Va); (case hd => rfl); (case hq => exact YlA)) | refine Vr ?_ | refine Vt ?_ | refine Vf ?_ | refine Vm ?_ | refine Ve ?_ | refine Vo ?_ | refine Vz ?_ | refine Vn ?_)
      repeat (first | refine Vx ?_ | (apply Ops_q; (case hon => exact Va); (case hd => rfl); (case hq => exact YlA)) | refine Vr ?_ | refine Vt ?_ | refine Vf ?_ | refine Vm ?_ | refine Ve ?_ | refine Vo ?_ | refine Vz ?_ | refine Vn ?_)
      refine ret1 (by first | exact .inl rfl | exact .inr rfl) rfl rfl ?_
      refine Does_mk (fun w' he => ⟨?_, hdd⟩) (m5.trans' m6 hS)
      rw [ins_at hu hk hs hd (.inl rfl)]
      exact hD.own.ext he
    | succ j =>
      obtain ⟨y, hy⟩ : ∃ z, L[j]? = some z := ⟨_, List.getElem?_eq_getElem (by omega)⟩
      have d0 : decide ((0 : Int) < ((j + 1 : Nat) : Int)) = true := decide_eq_true (by omega)
      have ej : ((j + 1 : Nat) : Int) - 1 = (j : Int) := by omega
      have hM1 : (L.take (j + 1) ++ h :: L.drop (j + 1))[j + 1]? = some h := by
        rw [List.getElem?_append_right (by rw [List.length_take]; omega), List.length_take, Nat.min_eq_left hk, Nat.sub_self]; rfl
      have hM0 : (L.take (j + 1) ++ h :: L.drop (j + 1))[j]? = some y := by
        rw [List.getElem?_append_left (by rw [List.length_take]; omega), List.getElem?_take, if_pos (by omega)]; exact hy
      have hc1 := hD.at hM1
      have hc0 := hD.at hM0
      unfold Nh.cells at hc1 hc0
      repeat (first | refine Vx ?_ | (apply Ops_q; (case hon => exact Va); (case hd => rfl); (case hq => exact YlA)) | refine Vr ?_ | refine Vt ?_ | refine Vf ?_ | refine Vm ?_ | refine Ve ?_ | refine Vo ?_ | refine Vz ?_ | refine Vn ?_)
      refine Ops_know rfl rfl d0 ?_
      repeat (first | refine Vx ?_ | (apply Ops_q; (case hon => exact Va); (case hd => rfl); (case hq => exact YlA)) | refine Vr ?_ | refine Vt ?_ | refine Vf ?_ | refine Vm ?_ | refine Ve ?_ | refine Vo ?_ | refine Vz ?_ | refine Vn ?_)
      (apply Ops_q; (case hon => (exact Va)); (case hd => rfl); (case hq => exact Yl_indexS (j := j + 1) rfl rfl (by omega)))
      repeat (first | refine Vx ?_ | (apply Ops_q; (case hon => exact Va); (case hd => rfl); (case hq => exact YlA)) | refine Vr ?_ | refine Vt ?_ | refine Vf ?_ | refine Vm ?_ | refine Ve ?_ | refine Vo ?_ | refine Vz ?_ | refine Vn ?_)
      rw [ej]
      (apply Ops_q; (case hon => (exact Va)); (case hd => rfl); (case hq => exact Yl_indexS (j := j) rfl rfl (by omega)))
      repeat (first | refine Vx ?_ | (apply Ops_q; (case hon => exact Va); (case hd => rfl); (case hq => exact YlA)) | refine Vr ?_ | refine Vt ?_ | refine Vf ?_ | refine Vm ?_ | refine Ve ?_ | refine Vo ?_ | refine Vz ?_ | refine Vn ?_)
      (apply Ops_q; (case hon => (exact Va)); (case hd => rfl); (case hq => exact Yl_call rfl (fun w_ e_ => less_v h y w_)))
      repeat (first | refine Vx ?_ | (apply Ops_q; (case hon => exact Va); (case hd => rfl); (case hq => exact YlA)) | refine Vr ?_ | refine Vt ?_ | refine Vf ?_ | refine Vm ?_ | refine Ve ?_ | refine Vo ?_ | refine Vz ?_ | refine Vn ?_)
      by_cases t : cmpH h y < 0
      · have d : decide (cmpH h y < 0) = true := decide_eq_true t
        refine V_yes rfl d ?_
        repeat (first | refine Vx ?_ | (apply Ops_q; (case hon => exact Va); (case hd => rfl); (case hq => exact YlA)) | refine Vr ?_ | refine Vt ?_ | refine Vf ?_ | refine Vm ?_ | refine Ve ?_ | refine Vo ?_ | refine Vz ?_ | refine Vn ?_)
        (apply Ops_q; (case hon => (exact Va)); (case hd => rfl); (case hq => exact Yl_indexS (j := j + 1) rfl rfl (by omega)))
        repeat (first | refine Vx ?_ | (apply Ops_q; (case hon => exact Va); (case hd => rfl); (case hq => exact YlA)) | refine Vr ?_ | refine Vt ?_ | refine Vf ?_ | refine Vm ?_ | refine Ve ?_ | refine Vo ?_ | refine Vz ?_ | refine Vn ?_)
        (refine Ops_alloc (by exact Va) rfl ?_; intro w7 b8 n_b8; have k_b8 := n_b8.blk)
        repeat (first | refine Vx ?_ | (apply Ops_q; (case hon => exact Va); (case hd => rfl); (case hq => exact YlA)) | refine Vr ?_ | refine Vt ?_ | refine Vf ?_ | refine Vm ?_ | refine Ve ?_ | refine Vo ?_ | refine Vz ?_ | refine Vn ?_)
        (refine Ops_store (by exact Va) rfl rfl (by assumption) (by first | rfl | exact OneAll.h) ?_; intro w8 u_w8; have k_b8 := u_w8.blk)
        have y8 := u_w8.below n_b8.ext n_b8.ge
        have g8 : g < b8 := Nat.lt_of_lt_of_le hlt (Nat.le_trans m6.size n_b8.ge)
        have m8 := m6.ext y8
        have D8 := hD.ext y8
        have hc08 := hc0.ext y8
        clear u_w8 n_b8 hc1 hc0
        repeat (first | refine Vx ?_ | (apply Ops_q; (case hon => exact Va); (case hd => rfl); (case hq => exact YlA)) | refine Vr ?_ | refine Vt ?_ | refine Vf ?_ | refine Vm ?_ | refine Ve ?_ | refine Vo ?_ | refine Vz ?_ | refine Vn ?_)
        rw [ej]
        (apply Ops_q; (case hon => (exact Va)); (case hd => rfl); (case hq => exact Yl_indexS (j := j) rfl rfl (by omega)))
        repeat (first | refine Vx ?_ | (apply Ops_q; (case hon => exact Va); (case hd => rfl); (case hq => exact YlA)) | refine Vr ?_ | refine Vt ?_ | refine Vf ?_ | refine Vm ?_ | refine Ve ?_ | refine Vo ?_ | refine Vz ?_ | refine Vn ?_)
        (apply Ops_q; (case hon => (exact Va)); (case hd => rfl); (case hq => exact Yl_indexS (j := j + 1) rfl rfl (by omega)))
        repeat (first | refine Vx ?_ | (apply Ops_q; (case hon => exact Va); (case hd => rfl); (case hq => exact YlA)) | refine Vr ?_ | refine Vt ?_ | refine Vf ?_ | refine Vm ?_ | refine Ve ?_ | refine Vo ?_ | refine Vz ?_ | refine Vn ?_)
        refine Ops_storeDat (i := j + 1) (v := y) (by exact Va) rfl rfl rfl D8 (by omega) ?_
        intro w9 D9 u9
        have k89 := grow_blk u9 k_b8 (fun e => by cases e; omega)
        have m9 := m8.grow u9 (fun b hb => .inl (by cases hb; rfl))
        clear hc08 k_b8
        repeat (first | refine Vx ?_ | (apply Ops_q; (case hon => exact Va); (case hd => rfl); (case hq => exact YlA)) | refine Vr ?_ | refine Vt ?_ | refine Vf ?_ | refine Vm ?_ | refine Ve ?_ | refine Vo ?_ | refine Vz ?_ | refine Vn ?_)
        rw [ej]
        (apply Ops_q; (case hon => (exact Va)); (case hd => rfl); (case hq => exact Yl_indexS (j := j) rfl rfl (by omega)))
        repeat (first | refine Vx ?_ | (apply Ops_q; (case hon => exact Va); (case hd => rfl); (case hq => exact YlA)) | refine Vr ?_ | refine Vt ?_ | refine Vf ?_ | refine Vm ?_ | refine Ve ?_ | refine Vo ?_ | refine Vz ?_ | refine Vn ?_)
        refine Ops_storeDat (i := j) (v := h) (by exact Va) rfl rfl rfl D9 (by omega) ?_
        intro w10 D10 u10
        have m10 := m9.grow u10 (fun b hb => .inl (by cases hb; rfl))
        rw [swap_at hy] at D10
        repeat (first | refine Vx ?_ | (apply Ops_q; (case hon => exact Va); (case hd => rfl); (case hq => exact YlA)) | refine Vr ?_ | refine Vt ?_ | refine Vf ?_ | refine Vm ?_ | refine Ve ?_ | refine Vo ?_ | refine Vz ?_ | refine Vn ?_)
        refine ⟨j, by rw [← ej]; exact (by repeat (first | exact trivial | refine ⟨rfl, ?_⟩)), ⟨m10, by omega, D10, fun x hx => ?_⟩, by omega⟩
        rw [List.drop_eq_getElem_cons (by omega : j < L.length), (List.getElem?_eq_some_iff.1 hy).2] at hx
        rcases List.mem_cons.1 hx with e | e
        · subst e; exact t
        · exact hd x e
      · have d : decide (cmpH h y < 0) = false := decide_eq_false t
        refine V_no rfl d ?_
        repeat (first | refine Vx ?_ | (apply Ops_q; (case hon => exact Va); (case hd => rfl); (case hq => exact YlA)) | refine Vr ?_ | refine Vt ?_ | refine Vf ?_ | refine Vm ?_ | refine Ve ?_ | refine Vo ?_ | refine Vz ?_ | refine Vn ?_)
        refine ret1 (by first | exact .inl rfl | exact .inr rfl) rfl rfl ?_
        refine Does_mk (fun w' he => ⟨?_, hdd⟩) (m5.trans' m6 hS)
        rw [ins_at hu hk hs hd (.inr ⟨y, hy, t⟩)]
        exact hD.own.ext he
end Go.Proofs.Ytkdjbddjblahkaa

/-
  Routes (layer 49): the reference: what a hop resolves to.
  Conditions: addresses and routers are numbers of 32 bits; lists are not too long.
-/
namespace Go.Proofs.Ytkdjbddjblahkaa
open Go.RowKit

/-- What hop and hops of the reference return: hops in new memory, and an error. -/
def H49R (o : Int × List Nh) (w : World) (v : Value) (w' : World) : Prop := ∃ ao c, v = .tuple #[.slice ao o.2.length c, .int .i64 o.1] ∧ Nhs w' ao o.2 ∧ o.2.length ≤ c ∧ (ao = none → c = 0) ∧ ∀ a, ao = some a → w.heap.size ≤ a.block ∧ a.block < w'.heap.size
theorem H49R.nil (e : Int) (w w' : World) : H49R (e, []) w (.tuple #[.slice none 0 0, .int .i64 e]) w' := ⟨none, 0, rfl, Arr.nil, Nat.le_refl _, fun _ => rfl, fun _ h => nomatch h⟩
/-- The contract of hops, for a route. -/
def Hops49C (V : List Rt) (ao : Option Addr) (c : Nat) (r : Rt) : Prop := ∀ w, VL w ao V → Calls Try.prog 38 #[.slice ao V.length c, r.val] w (Gives (H49R (rou cbS V r) w) w)
def orA (h x : Nh) : Nh := ⟨if x.addr = 0 then h.addr else x.addr, x.iface, x.router, x.weight, x.via⟩
def orB (h x : Nh) : Nh := ⟨if x.addr = 0 then h.addr else x.addr, x.iface, if x.router = 0 then h.router else x.router, x.weight, x.via⟩
set_option maxHeartbeats 8000000 in
theorem hop49_v {ao : Option Addr} {V : List Rt} (c : Nat) (r : Rt) (h : Nh) (w : World) (hV : VL w ao V) (hh : h.good) (hb : ¬badH h) (hrt : ∀ j x, nxI V h = some j → loopsB V j r = false → dep V j < 16 → V[j]? = some x → Hops49C V ao c x) :
    Calls Try.prog 55 #[.slice ao V.length c, r.val, h.val] w (Gives (H49R (hopR cbS V r h) w) w) := by
  have hlen := hV.len
  refine V_enter (vs := [_, _, _]) Try.func55 rfl Try.ntmps55 (Nat.le_of_ble_eq_true rfl) ?_
  repeat (first | refine Vx ?_ | (apply Ops_q; (case hon => exact Va); (case hd => rfl); (case hq => exact YlA)) | refine Vr ?_ | refine Vt ?_ | refine Vf ?_ | refine Vm ?_ | refine Ve ?_ | refine Vo ?_ | refine Vz ?_ | refine Vn ?_)
  (refine Ops_box (by exact Va) rfl rfl rfl ?_; intro w1 b4 n_b4; have k_b4 := n_b4.blk)
  have x1 := n_b4.ext
  clear n_b4
  repeat (first | refine Vx ?_ | (apply Ops_q; (case hon => exact Va); (case hd => rfl); (case hq => exact YlA)) | refine Vr ?_ | refine Vt ?_ | refine Vf ?_ | refine Vm ?_ | refine Ve ?_ | refine Vo ?_ | refine Vz ?_ | refine Vn ?_)
  (refine Ops_box (by exact Va) rfl rfl rfl ?_; intro w2 b5 n_b5; have k_b5 := n_b5.blk)
  have x2 := x1.trans n_b5.ext
  have g5 : w.heap.size ≤ b5 := Nat.le_trans x1.size n_b5.ge
  replace k_b4 := k_b4.ext n_b5.ext
  clear n_b5
  repeat (first | refine Vx ?_ | (apply Ops_q; (case hon => exact Va); (case hd => rfl); (case hq => exact YlA)) | refine Vr ?_ | refine Vt ?_ | refine Vf ?_ | refine Vm ?_ | refine Ve ?_ | refine Vo ?_ | refine Vz ?_ | refine Vn ?_)
  by_cases t1 : 0 ≤ h.iface
  · have d1 : decide (0 ≤ h.iface) = true := decide_eq_true t1
    refine V_yes rfl d1 ?_
    have q4 : Cells w2 ⟨b4, 0, none⟩ [.int .u32 r.p.a, .int .i64 r.p.n] := k_b4.part 0 2
    repeat (first | refine Vx ?_ | (apply Ops_q; (case hon => exact Va); (case hd => rfl); (case hq => exact YlA)) | refine Vr ?_ | refine Vt ?_ | refine Vf ?_ | refine Vm ?_ | refine Ve ?_ | refine Vo ?_ | refine Vz ?_ | refine Vn ?_)
    (refine Ops_store (by exact Va) rfl rfl (by assumption) (by first | rfl | exact OneAll.h) ?_; intro w3 u_w3; have k_b5 := u_w3.blk)
    have x3 := u_w3.below x2 g5
    clear u_w3 q4 k_b4
    repeat (first | refine Vx ?_ | (apply Ops_q; (case hon => exact Va); (case hd => rfl); (case hq => exact YlA)) | refine Vr ?_ | refine Vt ?_ | refine Vf ?_ | refine Vm ?_ | refine Ve ?_ | refine Vo ?_ | refine Vz ?_ | refine Vn ?_)
    (refine Ops_lit (by exact Va) rfl rfl rfl ?_; intro w4 bl n_bl; have k_bl := n_bl.blk)
    have x4 := x3.trans n_bl.ext
    have gl := n_bl.ge
    repeat (first | refine Vx ?_ | (apply Ops_q; (case hon => exact Va); (case hd => rfl); (case hq => exact YlA)) | refine Vr ?_ | refine Vt ?_ | refine Vf ?_ | refine Vm ?_ | refine Ve ?_ | refine Vo ?_ | refine Vz ?_ | refine Vn ?_)
    refine ret2 (by first | exact .inl rfl | exact .inr rfl) rfl rfl rfl ?_
    refine Gives_mk (fun w' he => ?_) x4
    rw [show hopR cbS V r h = (0, [⟨h.addr, h.iface, h.router, h.weight, r.p⟩]) by unfold hopR hopS; rw [if_pos t1]]
    refine ⟨_, 1, rfl, (arr_one k_bl).ext he, Nat.le_refl _, fun e => (by cases e), fun a ha => ?_⟩
    cases ha
    exact ⟨Nat.le_trans x3.size gl, Nat.lt_of_lt_of_le k_bl.lt he.size⟩
  have d1 : decide (0 ≤ h.iface) = false := decide_eq_false t1
  refine V_no rfl d1 ?_
  clear d1
  have hno : ∀ c, (∀ f : Rt → Int × List Nh, hopS V f r h = (c, [])) → ∀ w3, Ext w w3 → ∀ w', Ext w3 w' → Gives (H49R (hopR cbS V r h) w) w (.returned (.tuple #[.slice none 0 0, .int .i64 c])) w' := fun c hc w3 e3 => Gives_mk (fun w' he => by unfold hopR; rw [hc]; exact H49R.nil c w w') e3
  repeat (first | refine Vx ?_ | (apply Ops_q; (case hon => exact Va); (case hd => rfl); (case hq => exact YlA)) | refine Vr ?_ | refine Vt ?_ | refine Vf ?_ | refine Vm ?_ | refine Ve ?_ | refine Vo ?_ | refine Vz ?_ | refine Vn ?_)
  (apply Ops_q; (case hon => (exact Va)); (case hd => rfl); (case hq => exact Yl_call rfl (fun w_ e_ => next49_v c h w_ (hV.ext (x2.trans e_)) hh.1 hb)))
  repeat (first | refine Vx ?_ | (apply Ops_q; (case hon => exact Va); (case hd => rfl); (case hq => exact YlA)) | refine Vr ?_ | refine Vt ?_ | refine Vf ?_ | refine Vm ?_ | refine Ve ?_ | refine Vo ?_ | refine Vz ?_ | refine Vn ?_)
  (refine Ops_alloc (by exact Va) rfl ?_; intro w3 b8 n_b8; have k_b8 := n_b8.blk)
  repeat (first | refine Vx ?_ | (apply Ops_q; (case hon => exact Va); (case hd => rfl); (case hq => exact YlA)) | refine Vr ?_ | refine Vt ?_ | refine Vf ?_ | refine Vm ?_ | refine Ve ?_ | refine Vo ?_ | refine Vz ?_ | refine Vn ?_)
  (refine Ops_store (by exact Va) rfl rfl (by assumption) (by first | rfl | exact OneAll.h) ?_; intro w4 u_w4; have k_b8 := u_w4.blk)
  have y4 := u_w4.below n_b8.ext n_b8.ge
  have x4 := x2.trans y4
  have k44 := k_b4.ext y4
  have k54 := k_b5.ext y4
  clear u_w4 n_b8 k_b4 k_b5
  cases hn : nxI V h with
  | none =>
    repeat (first | refine Vx ?_ | (apply Ops_q; (case hon => exact Va); (case hd => rfl); (case hq => exact YlA)) | refine Vr ?_ | refine Vt ?_ | refine Vf ?_ | refine Vm ?_ | refine Ve ?_ | refine Vo ?_ | refine Vz ?_ | refine Vn ?_)
    refine ret2 (by first | exact .inl rfl | exact .inr rfl) rfl rfl rfl ?_
    exact hno 11 (fun f => by unfold hopS; rw [if_neg t1, hn]) w4 x4
  | some j =>
  rw [hn] at k_b8
  have hjl := nxI_lt hn
  obtain ⟨rj, hj⟩ : ∃ z, V[j]? = some z := ⟨_, List.getElem?_eq_getElem hjl⟩
  rw [rtO_some hj] at k_b8
  repeat (first | refine Vx ?_ | (apply Ops_q; (case hon => exact Va); (case hd => rfl); (case hq => exact YlA)) | refine Vr ?_ | refine Vt ?_ | refine Vf ?_ | refine Vm ?_ | refine Ve ?_ | refine Vo ?_ | refine Vz ?_ | refine Vn ?_)
  (apply Ops_q; (case hon => (exact Va)); (case hd => rfl); (case hq => exact Yl_call rfl (fun w_ e_ => loops49_v c j r rj w_ (hV.ext (x4.trans e_)) hj)))
  cases hl : loopsB V j r with
  | true =>
    repeat (first | refine Vx ?_ | (apply Ops_q; (case hon => exact Va); (case hd => rfl); (case hq => exact YlA)) | refine Vr ?_ | refine Vt ?_ | refine Vf ?_ | refine Vm ?_ | refine Ve ?_ | refine Vo ?_ | refine Vz ?_ | refine Vn ?_)
    refine ret2 (by first | exact .inl rfl | exact .inr rfl) rfl rfl rfl ?_
    exact hno 10 (fun f => by unfold hopS; rw [if_neg t1, hn]; dsimp only; rw [if_pos hl]) w4 x4
  | false =>
  repeat (first | refine Vx ?_ | (apply Ops_q; (case hon => exact Va); (case hd => rfl); (case hq => exact YlA)) | refine Vr ?_ | refine Vt ?_ | refine Vf ?_ | refine Vm ?_ | refine Ve ?_ | refine Vo ?_ | refine Vz ?_ | refine Vn ?_)
  (apply Ops_q; (case hon => (exact Va)); (case hd => rfl); (case hq => exact Yl_call rfl (fun w_ e_ => depth49_v c _ j rj w_ rfl hj (hV.ext (x4.trans e_)))))
  repeat (first | refine Vx ?_ | (apply Ops_q; (case hon => exact Va); (case hd => rfl); (case hq => exact YlA)) | refine Vr ?_ | refine Vt ?_ | refine Vf ?_ | refine Vm ?_ | refine Ve ?_ | refine Vo ?_ | refine Vz ?_ | refine Vn ?_)
  by_cases t3 : 16 ≤ dep V j
  · have d3 : decide (16 ≤ dep V j) = true := decide_eq_true t3
    refine V_yes rfl d3 ?_
    repeat (first | refine Vx ?_ | (apply Ops_q; (case hon => exact Va); (case hd => rfl); (case hq => exact YlA)) | refine Vr ?_ | refine Vt ?_ | refine Vf ?_ | refine Vm ?_ | refine Ve ?_ | refine Vo ?_ | refine Vz ?_ | refine Vn ?_)
    refine ret2 (by first | exact .inl rfl | exact .inr rfl) rfl rfl rfl ?_
    exact hno 24 (fun f => by unfold hopS; rw [if_neg t1, hn]; dsimp only; rw [if_neg (by rw [hl]; decide), if_pos t3]) w4 x4
  have d3 : decide (16 ≤ dep V j) = false := decide_eq_false t3
  refine V_no rfl d3 ?_
  clear d3
  have hdj : dep V j < 16 := by omega
  have hop1 : hopR cbS V r h = if (rou cbS V rj).1 ≠ 0 then ((rou cbS V rj).1, []) else if (rou cbS V rj).2 = [] then (11, []) else (0, (rou cbS V rj).2.map (orH h)) := by
    unfold hopR hopS
    rw [if_neg t1, hn]
    dsimp only
    rw [if_neg (by rw [hl]; decide), if_neg t3, hj]
  have hL64 : (rou cbS V rj).2.length ≤ 64 := rou_len cbOk.len V rj
  have hgd : ∀ x ∈ (rou cbS V rj).2, x.good := rouF_good cbOk hV.good 17 rj (hV.good rj (List.mem_of_getElem? hj))
  repeat (first | refine Vx ?_ | (apply Ops_q; (case hon => exact Va); (case hd => rfl); (case hq => exact YlA)) | refine Vr ?_ | refine Vt ?_ | refine Vf ?_ | refine Vm ?_ | refine Ve ?_ | refine Vo ?_ | refine Vz ?_ | refine Vn ?_)
  (refine Ops_callR (by exact Va) rfl rfl (fun w_ e_ => hrt j rj hn hl hdj hj w_ (hV.ext (x4.trans e_))) ?_; intro u w5 w0_ e0_ e1_ r_u; have e_w5 := e0_.trans e1_; have b_u := e0_.size; clear e0_ e1_)
  obtain ⟨ao5, c5, rfl, hN, hlc, hnc, _⟩ := r_u
  have x5 := x4.trans e_w5
  have k5 := k54.ext e_w5
  clear k44 k54 k_b8
  generalize rou cbS V rj = o at *
  obtain ⟨er, L⟩ := o
  dsimp only at hN hlc hL64 hgd hop1 ⊢
  have hout : ∀ c, hopR cbS V r h = (c, []) → ∀ w', Ext w5 w' → Gives (H49R (hopR cbS V r h) w) w (.returned (.tuple #[.slice none 0 0, .int .i64 c])) w' := fun c hc => Gives_mk (fun w' he => by rw [hc]; exact H49R.nil c w w') x5
  repeat (first | refine Vx ?_ | (apply Ops_q; (case hon => exact Va); (case hd => rfl); (case hq => exact YlA)) | refine Vr ?_ | refine Vt ?_ | refine Vf ?_ | refine Vm ?_ | refine Ve ?_ | refine Vo ?_ | refine Vz ?_ | refine Vn ?_)
  by_cases t4 : er = 0
  · have d4 : (!decide (er = 0)) = false := by rw [decide_eq_true t4]; rfl
    refine V_no rfl d4 ?_
    clear d4
    rw [if_neg (fun h => h t4)] at hop1
    repeat (first | refine Vx ?_ | (apply Ops_q; (case hon => exact Va); (case hd => rfl); (case hq => exact YlA)) | refine Vr ?_ | refine Vt ?_ | refine Vf ?_ | refine Vm ?_ | refine Ve ?_ | refine Vo ?_ | refine Vz ?_ | refine Vn ?_)
    by_cases t5 : L = []
    · have d5 : decide ((L.length : Int) = 0) = true := decide_eq_true (by rw [t5]; rfl)
      refine V_yes rfl d5 ?_
      repeat (first | refine Vx ?_ | (apply Ops_q; (case hon => exact Va); (case hd => rfl); (case hq => exact YlA)) | refine Vr ?_ | refine Vt ?_ | refine Vf ?_ | refine Vm ?_ | refine Ve ?_ | refine Vo ?_ | refine Vz ?_ | refine Vn ?_)
      refine ret2 (by first | exact .inl rfl | exact .inr rfl) rfl rfl rfl ?_
      exact hout 11 (by rw [hop1, if_pos t5])
    · have hpos : 0 < L.length := List.length_pos_iff.2 t5
      have d5 : decide ((L.length : Int) = 0) = false := decide_eq_false (by omega)
      refine V_no rfl d5 ?_
      rw [if_neg t5] at hop1
      clear d5 hout hno
      repeat (first | refine Vx ?_ | (apply Ops_q; (case hon => exact Va); (case hd => rfl); (case hq => exact YlA)) | refine Vr ?_ | refine Vt ?_ | refine Vf ?_ | refine Vm ?_ | refine Ve ?_ | refine Vo ?_ | refine Vz ?_ | refine Vn ?_)
      refine V_loop (fun z : Nat × Value => [(53, .int .i64 z.1), (52, .int .i64 L.length), (51, .slice ao5 L.length c5), (12, z.2), (5, .pointer (some ⟨b5, 0, none⟩))])
        (fun z w' => Ext w5 w' ∧ z.1 ≤ L.length ∧ Own w' w5.heap.size 48 6 z.2 (((L.take z.1).map (orH h)).map Nh.cells)) (fun z => L.length - z.1) (0, .slice none 0 0) (by repeat (first | exact trivial | refine ⟨rfl, ?_⟩)) ⟨Ext.refl _, Nat.zero_le _, Own.nil⟩ ?_
      rintro ⟨k, v⟩ w6 ⟨x6, hk, o6⟩
      dsimp only at hk o6 ⊢
      repeat (first | refine Vx ?_ | (apply Ops_q; (case hon => exact Va); (case hd => rfl); (case hq => exact YlA)) | refine Vr ?_ | refine Vt ?_ | refine Vf ?_ | refine Vm ?_ | refine Ve ?_ | refine Vo ?_ | refine Vz ?_ | refine Vn ?_)
      refine V_cond rfl (fun hg => ?_) (fun hg => ?_)
      · have hkl : k < L.length := by have := of_decide_eq_true hg; omega
        clear hg
        obtain ⟨x, hx⟩ : ∃ z, L[k]? = some z := ⟨_, List.getElem?_eq_getElem hkl⟩
        have hxg := hgd x (List.mem_of_getElem? hx)
        obtain ⟨ah, rfl, hch⟩ := Nhs.at (hN.ext x6) hx
        have hp0 : 0 ≤ x.weight * h.weight := Int.mul_nonneg hxg.2.1 hh.2.1
        have hp1 : x.weight * h.weight ≤ 255 * 255 := Int.mul_le_mul hxg.2.2 hh.2.2 hh.2.1 (by decide)
        repeat (first | refine Vx ?_ | (apply Ops_q; (case hon => exact Va); (case hd => rfl); (case hq => exact YlA)) | refine Vr ?_ | refine Vt ?_ | refine Vf ?_ | refine Vm ?_ | refine Ve ?_ | refine Vo ?_ | refine Vz ?_ | refine Vn ?_)
        (apply Ops_q; (case hon => (exact Va)); (case hd => rfl); (case hq => exact Yl_indexS (j := k) rfl rfl (by omega)))
        repeat (first | refine Vx ?_ | (apply Ops_q; (case hon => exact Va); (case hd => rfl); (case hq => exact YlA)) | refine Vr ?_ | refine Vt ?_ | refine Vf ?_ | refine Vm ?_ | refine Ve ?_ | refine Vo ?_ | refine Vz ?_ | refine Vn ?_)
        (refine Ops_alloc (by exact Va) rfl ?_; intro w7 b14 n_b14; have k_b14 := n_b14.blk)
        repeat (first | refine Vx ?_ | (apply Ops_q; (case hon => exact Va); (case hd => rfl); (case hq => exact YlA)) | refine Vr ?_ | refine Vt ?_ | refine Vf ?_ | refine Vm ?_ | refine Ve ?_ | refine Vo ?_ | refine Vz ?_ | refine Vn ?_)
        (refine Ops_store (by exact Va) rfl rfl (by assumption) (by first | rfl | exact OneAll.h) ?_; intro w8 u_w8; have k_b14 := u_w8.blk)
        have y8 := u_w8.below n_b14.ext n_b14.ge
        have x8 := x6.trans y8
        have o8 := o6.ext y8
        have g14 : w5.heap.size ≤ b14 := Nat.le_trans x6.size n_b14.ge
        have ne14 : v.ownBlock ≠ some b14 := fun e => by have := o6.lt e; have := n_b14.ge; omega
        clear u_w8 n_b14 hch o6
        repeat (first | refine Vx ?_ | (apply Ops_q; (case hon => exact Va); (case hd => rfl); (case hq => exact YlA)) | refine Vr ?_ | refine Vt ?_ | refine Vf ?_ | refine Vm ?_ | refine Ve ?_ | refine Vo ?_ | refine Vz ?_ | refine Vn ?_)
        refine V_meet1 (fun _ : Unit => [(14, .pointer (some ⟨b14, 0, none⟩)), (53, .int .i64 k), (52, .int .i64 L.length), (51, .slice (some ah) L.length c5), (12, v), (5, .pointer (some ⟨b5, 0, none⟩))])
          (fun _ w' => Ext w5 w' ∧ Own w' w5.heap.size 48 6 v (((L.take k).map (orH h)).map Nh.cells) ∧ Blk w' b14 48 (orA h x).cells) ?_ ?_
        · by_cases s1 : x.addr = 0
          · have d1 : decide ((x.addr : Int) = 0) = true := decide_eq_true (by omega)
            refine V_yes rfl d1 ?_
            have k5' := k5.ext x8
            repeat (first | refine Vx ?_ | (apply Ops_q; (case hon => exact Va); (case hd => rfl); (case hq => exact YlA)) | refine Vr ?_ | refine Vt ?_ | refine Vf ?_ | refine Vm ?_ | refine Ve ?_ | refine Vo ?_ | refine Vz ?_ | refine Vn ?_)
            refine Ops_store (by exact Va) rfl rfl k_b14 (by first | rfl | exact OneAll.h) ?_
            intro w9 u9
            have k9 := u9.blk
            repeat (first | refine Vx ?_ | (apply Ops_q; (case hon => exact Va); (case hd => rfl); (case hq => exact YlA)) | refine Vr ?_ | refine Vt ?_ | refine Vf ?_ | refine Vm ?_ | refine Ve ?_ | refine Vo ?_ | refine Vz ?_ | refine Vn ?_)
            refine ⟨(), (by repeat (first | exact trivial | refine ⟨rfl, ?_⟩)), u9.below x8 g14, o8.upd u9 ne14, ?_⟩
            unfold orA Nh.cells
            rw [if_pos s1]
            exact k9
          · have d1 : decide ((x.addr : Int) = 0) = false := decide_eq_false (by omega)
            refine V_no rfl d1 ?_
            repeat (first | refine Vx ?_ | (apply Ops_q; (case hon => exact Va); (case hd => rfl); (case hq => exact YlA)) | refine Vr ?_ | refine Vt ?_ | refine Vf ?_ | refine Vm ?_ | refine Ve ?_ | refine Vo ?_ | refine Vz ?_ | refine Vn ?_)
            refine ⟨(), (by repeat (first | exact trivial | refine ⟨rfl, ?_⟩)), x8, o8, ?_⟩
            unfold orA Nh.cells
            rw [if_neg s1]
            exact k_b14
        clear k_b14 o8 x8 y8
        rintro ⟨⟩ w9 ⟨x9, o9, k9⟩
        unfold orA Nh.cells at k9
        dsimp only at k9
        repeat (first | refine Vx ?_ | (apply Ops_q; (case hon => exact Va); (case hd => rfl); (case hq => exact YlA)) | refine Vr ?_ | refine Vt ?_ | refine Vf ?_ | refine Vm ?_ | refine Ve ?_ | refine Vo ?_ | refine Vz ?_ | refine Vn ?_)
        refine V_meet1 (fun _ : Unit => [(14, .pointer (some ⟨b14, 0, none⟩)), (53, .int .i64 k), (52, .int .i64 L.length), (51, .slice (some ah) L.length c5), (12, v), (5, .pointer (some ⟨b5, 0, none⟩))])
          (fun _ w' => Ext w5 w' ∧ Own w' w5.heap.size 48 6 v (((L.take k).map (orH h)).map Nh.cells) ∧ Blk w' b14 48 (orB h x).cells) ?_ ?_
        · by_cases s1 : x.router = 0
          · have d1 : decide ((x.router : Int) = 0) = true := decide_eq_true (by omega)
            refine V_yes rfl d1 ?_
            have k5' := k5.ext x9
            repeat (first | refine Vx ?_ | (apply Ops_q; (case hon => exact Va); (case hd => rfl); (case hq => exact YlA)) | refine Vr ?_ | refine Vt ?_ | refine Vf ?_ | refine Vm ?_ | refine Ve ?_ | refine Vo ?_ | refine Vz ?_ | refine Vn ?_)
            refine Ops_store (by exact Va) rfl rfl k9 (by first | rfl | exact OneAll.h) ?_
            intro w10 u10
            have k10 := u10.blk
            repeat (first | refine Vx ?_ | (apply Ops_q; (case hon => exact Va); (case hd => rfl); (case hq => exact YlA)) | refine Vr ?_ | refine Vt ?_ | refine Vf ?_ | refine Vm ?_ | refine Ve ?_ | refine Vo ?_ | refine Vz ?_ | refine Vn ?_)
            refine ⟨(), (by repeat (first | exact trivial | refine ⟨rfl, ?_⟩)), u10.below x9 g14, o9.upd u10 ne14, ?_⟩
            unfold orB Nh.cells
            dsimp only
            rw [if_pos s1]
            exact k10
          · have d1 : decide ((x.router : Int) = 0) = false := decide_eq_false (by omega)
            refine V_no rfl d1 ?_
            repeat (first | refine Vx ?_ | (apply Ops_q; (case hon => exact Va); (case hd => rfl); (case hq => exact YlA)) | refine Vr ?_ | refine Vt ?_ | refine Vf ?_ | refine Vm ?_ | refine Ve ?_ | refine Vo ?_ | refine Vz ?_ | refine Vn ?_)
            refine ⟨(), (by repeat (first | exact trivial | refine ⟨rfl, ?_⟩)), x9, o9, ?_⟩
            unfold orB Nh.cells
            dsimp only
            rw [if_neg s1]
            exact k9
        clear k9 o9 x9
        rintro ⟨⟩ w10 ⟨x10, o10, k10⟩
        unfold orB Nh.cells at k10
        dsimp only at k10
        have k5' := k5.ext x10
        have hik : InK .i64 (x.weight * h.weight) := by
          generalize x.weight * h.weight = z at *
          simp only [InK]; omega
        repeat (first | refine Vx ?_ | (apply Ops_q; (case hon => exact Va); (case hd => rfl); (case hq => exact YlA)) | refine Vr ?_ | refine Vt ?_ | refine Vf ?_ | refine Vm ?_ | refine Ve ?_ | refine Vo ?_ | refine Vz ?_ | refine Vn ?_)
        refine Ops_store (by exact Va) rfl rfl k10 (by first | rfl | exact OneAll.h) ?_
        intro w20 u20
        have k20 : Blk w20 b14 48 (orH h x).cells := by
          have := u20.blk
          unfold orH Nh.cells
          dsimp only
          exact this
        have x20 : Ext w5 w20 := u20.below x10 g14
        have o20 := o10.upd u20 ne14
        clear u20 k10 o10
        unfold Nh.cells at k20
        repeat (first | refine Vx ?_ | (apply Ops_q; (case hon => exact Va); (case hd => rfl); (case hq => exact YlA)) | refine Vr ?_ | refine Vt ?_ | refine Vf ?_ | refine Vm ?_ | refine Ve ?_ | refine Vo ?_ | refine Vz ?_ | refine Vn ?_)
        (refine Ops_lit (by exact Va) rfl rfl rfl ?_; intro w21 bl n_bl; have k_bl := n_bl.blk)
        have o21 := o20.ext n_bl.ext
        have x21 := x20.trans n_bl.ext
        have hlen : (((L.take k).map (orH h)).map Nh.cells).length ≤ 64 := by rw [List.length_map, List.length_map, List.length_take]; omega
        repeat (first | refine Vx ?_ | (apply Ops_q; (case hon => exact Va); (case hd => rfl); (case hq => exact YlA)) | refine Vr ?_ | refine Vt ?_ | refine Vf ?_ | refine Vm ?_ | refine Ve ?_ | refine Vo ?_ | refine Vz ?_ | refine Vn ?_)
        (refine Ops_append1 (by exact Va) rfl rfl rfl rfl o21 k_bl.cells inferInstance inferInstance (by first | omega | (rw [List.length_map]; omega)) rfl x21.size ?_; intro v' w22 o_v' g_w22 d_v')
        have x22 := grow_below x21 g_w22 (fun c hc => o21.ge hc)
        repeat (first | refine Vx ?_ | (apply Ops_q; (case hon => exact Va); (case hd => rfl); (case hq => exact YlA)) | refine Vr ?_ | refine Vt ?_ | refine Vf ?_ | refine Vm ?_ | refine Ve ?_ | refine Vo ?_ | refine Vz ?_ | refine Vn ?_)
        refine ⟨(k + 1, v'), (by repeat (first | exact trivial | refine ⟨rfl, ?_⟩)), ⟨x22, hkl, ?_⟩, by simp only; omega⟩
        dsimp only
        rw [List.take_add_one, hx, List.map_append, List.map_append]
        exact o_v'
      · obtain rfl : k = L.length := by have := of_decide_eq_false hg; omega
        rw [List.take_length] at o6
        obtain ⟨ao2, c2, rfl, hA2, hc2, hn2⟩ := o6.slice2
        repeat (first | refine Vx ?_ | (apply Ops_q; (case hon => exact Va); (case hd => rfl); (case hq => exact YlA)) | refine Vr ?_ | refine Vt ?_ | refine Vf ?_ | refine Vm ?_ | refine Ve ?_ | refine Vo ?_ | refine Vz ?_ | refine Vn ?_)
        refine ret2 (by first | exact .inl rfl | exact .inr rfl) rfl rfl rfl ?_
        refine Gives_mk (fun w' he => ?_) (x5.trans x6)
        rw [hop1]
        refine ⟨ao2, c2, ?_, hA2.ext he, by rw [List.length_map] at hc2; exact hc2, hn2, fun a ha => ?_⟩
        · rw [List.length_map]
        · subst ha
          exact ⟨Nat.le_trans x5.size (o6.ge rfl), Nat.lt_of_lt_of_le (o6.lt rfl) he.size⟩
  · have d4 : (!decide (er = 0)) = true := by rw [decide_eq_false t4]; rfl
    refine V_yes rfl d4 ?_
    repeat (first | refine Vx ?_ | (apply Ops_q; (case hon => exact Va); (case hd => rfl); (case hq => exact YlA)) | refine Vr ?_ | refine Vt ?_ | refine Vf ?_ | refine Vm ?_ | refine Ve ?_ | refine Vo ?_ | refine Vz ?_ | refine Vn ?_)
    refine ret2 (by first | exact .inl rfl | exact .inr rfl) rfl rfl rfl ?_
    exact hout er (by rw [hop1, if_pos t4])
end Go.Proofs.Ytkdjbddjblahkaa

/-
  Routes (layer 49): what a route resolves to.
  Conditions: addresses and routers are numbers of 32 bits; lists are not too long.
-/
namespace Go.Proofs.Ytkdjbddjblahkaa
open Go.RowKit

theorem nhs_one (L : List Nh) : (∀ u ∈ L.map Nh.cells, u.length = 6) ∧ ∀ u ∈ L.map Nh.cells, u.all (fun u => u.oneCell') = true := by
  constructor <;> intro u hu <;> obtain ⟨x, _, rfl⟩ := List.mem_map.1 hu <;> rfl
def errK (f : Nh → Int × List Nh) (H : List Nh) (k : Nat) : Int := if k = 0 then 0 else fstE f H
section
variable {V : List Rt} {s : Sv} {X : Nat → Prop} {w0 : World}
def XR (X : Nat → Prop) (b : Nat) (v : Value) (c : Nat) : Prop := X c ∨ c = b ∨ v.ownBlock = some c
set_option maxHeartbeats 4000000 in
theorem route_v (r : Rt) (w : World) (hs : SvM V cbS s X w0 w) (hX : ∀ k, X k → k < w.heap.size) (hr : RtM w0 r) (hn : r.hops.length ≤ 64) (hg : ∀ h ∈ r.hops, h.good)
    (hrt : ∀ h ∈ r.hops, ∀ j x, nxI V h = some j → loopsB V j r = false → dep V j < 16 → V[j]? = some x → RouteC V cbS s w0 x) :
    Calls Try.prog 36 #[.pointer (some ⟨s.b, 0, none⟩), r.val] w (Does (SvB s) (OutR V cbS s X w0 (rou cbS V r) w) w) := by
  refine V_enter (vs := [_, _]) Try.func36 rfl Try.ntmps36 (Nat.le_of_ble_eq_true rfl) ?_
  repeat (first | refine Vx ?_ | (apply Ops_q; (case hon => exact Va); (case hd => rfl); (case hq => exact YlA)) | refine Vr ?_ | refine Vt ?_ | refine Vf ?_ | refine Vm ?_ | refine Ve ?_ | refine Vo ?_ | refine Vz ?_ | refine Vn ?_)
  (refine Ops_box (by exact Va) rfl rfl rfl ?_; intro w1 b3 n_b3; have k_b3 := n_b3.blk)
  have x1 := n_b3.ext
  have g3 := n_b3.ge
  clear n_b3
  have h1 : SvM V cbS s (XR X b3 (.slice none 0 0)) w0 w1 := (hs.toX (X' := XR X b3 (.slice none 0 0)) (fun k hk => by
    rcases hk with hk | hk | hk
    · exact .inl hk
    · exact .inr (hk ▸ g3)
    · cases hk)).ext x1
  repeat (first | refine Vx ?_ | (apply Ops_q; (case hon => exact Va); (case hd => rfl); (case hq => exact YlA)) | refine Vr ?_ | refine Vt ?_ | refine Vf ?_ | refine Vm ?_ | refine Ve ?_ | refine Vo ?_ | refine Vz ?_ | refine Vn ?_)
  refine V_loop (fun z : Nat × Value => [(15, .int .i64 z.1), (14, .int .i64 r.hops.length), (13, .slice r.ao r.hops.length r.c), (6, z.2), (7, .int .i64 (errK (hopR cbS V r) r.hops z.1)), (0, .pointer (some ⟨s.b, 0, none⟩)), (3, .pointer (some ⟨b3, 0, none⟩))])
    (fun z w' => Mod (SvB s) w w' ∧ z.1 ≤ r.hops.length ∧ SvM V cbS s (XR X b3 z.2) w0 w' ∧ Blk w' b3 31 r.cells ∧ Own w' w.heap.size 48 6 z.2 (((r.hops.take z.1).flatMap fun h => (hopR cbS V r h).2).map Nh.cells) ∧ z.2.ownBlock ≠ some b3) (fun z => r.hops.length - z.1) (0, .slice none 0 0)
    (by repeat (first | exact trivial | refine ⟨rfl, ?_⟩)) ⟨.of_ext x1, Nat.zero_le _, h1, k_b3, Own.nil, fun e => by cases e⟩ ?_
  clear h1 k_b3
  rintro ⟨k, v⟩ w2 ⟨m2, hk, h2, k3, o2, nb⟩
  dsimp only at hk h2 o2 nb ⊢
  repeat (first | refine Vx ?_ | (apply Ops_q; (case hon => exact Va); (case hd => rfl); (case hq => exact YlA)) | refine Vr ?_ | refine Vt ?_ | refine Vf ?_ | refine Vm ?_ | refine Ve ?_ | refine Vo ?_ | refine Vz ?_ | refine Vn ?_)
  refine V_cond rfl (fun hgd => ?_) (fun hgd => ?_)
  · have hkl : k < r.hops.length := by have := of_decide_eq_true hgd; omega
    clear hgd
    obtain ⟨h, hh⟩ : ∃ z, r.hops[k]? = some z := ⟨_, List.getElem?_eq_getElem hkl⟩
    have hhm := List.mem_of_getElem? hh
    obtain ⟨ah, eh, hch⟩ := Nhs.at (hr.hops.ext h2.r.ext) hh
    have hfl : (r.hops.take (k + 1)).flatMap (fun h => (hopR cbS V r h).2) = (r.hops.take k).flatMap (fun h => (hopR cbS V r h).2) ++ (hopR cbS V r h).2 := by
      rw [List.take_add_one, hh, List.flatMap_append]; simp
    have hlen64 : ∀ k, ((r.hops.take k).flatMap (fun h => (hopR cbS V r h).2)).length ≤ 64 * k := by
      intro k
      induction k with
      | zero => simp
      | succ k ih =>
        cases hq : r.hops[k]? with
        | none => rw [List.take_add_one, hq]; simp only [Option.toList_none, List.append_nil]; omega
        | some z =>
          rw [List.take_add_one, hq, List.flatMap_append, List.length_append]
          have := hopR_len cbOk.len V r z
          simp only [Option.toList_some, List.flatMap_cons, List.flatMap_nil, List.append_nil]
          omega
    have hl1 := hlen64 k
    generalize (r.hops.take k).flatMap (fun h => (hopR cbS V r h).2) = A at *
    unfold Rt.cells at k3
    rw [eh]
    repeat (first | refine Vx ?_ | (apply Ops_q; (case hon => exact Va); (case hd => rfl); (case hq => exact YlA)) | refine Vr ?_ | refine Vt ?_ | refine Vf ?_ | refine Vm ?_ | refine Ve ?_ | refine Vo ?_ | refine Vz ?_ | refine Vn ?_)
    (apply Ops_q; (case hon => (exact Va)); (case hd => rfl); (case hq => exact Yl_indexS (j := k) rfl rfl (by omega)))
    repeat (first | refine Vx ?_ | (apply Ops_q; (case hon => exact Va); (case hd => rfl); (case hq => exact YlA)) | refine Vr ?_ | refine Vt ?_ | refine Vf ?_ | refine Vm ?_ | refine Ve ?_ | refine Vo ?_ | refine Vz ?_ | refine Vn ?_)
    (refine Ops_alloc (by exact Va) rfl ?_; intro w3 b9 n_b9; have k_b9 := n_b9.blk)
    repeat (first | refine Vx ?_ | (apply Ops_q; (case hon => exact Va); (case hd => rfl); (case hq => exact YlA)) | refine Vr ?_ | refine Vt ?_ | refine Vf ?_ | refine Vm ?_ | refine Ve ?_ | refine Vo ?_ | refine Vz ?_ | refine Vn ?_)
    (refine Ops_store (by exact Va) rfl rfl (by assumption) (by first | rfl | exact OneAll.h) ?_; intro w4 u_w4; have k_b9 := u_w4.blk)
    have y4 := u_w4.below n_b9.ext n_b9.ge
    have h4 := h2.ext y4
    have k34 := k3.ext y4
    have o4 := o2.ext y4
    have m4 := m2.ext y4
    have hX4 : ∀ c, XR X b3 v c → c < w4.heap.size := fun c hc => by
      rcases hc with hc | hc | hc
      · exact Nat.lt_of_lt_of_le (hX c hc) m4.size
      · exact hc ▸ k34.lt
      · exact o4.lt hc
    clear u_w4 n_b9 hch k3 o2 h2
    repeat (first | refine Vx ?_ | (apply Ops_q; (case hon => exact Va); (case hd => rfl); (case hq => exact YlA)) | refine Vr ?_ | refine Vt ?_ | refine Vf ?_ | refine Vm ?_ | refine Ve ?_ | refine Vo ?_ | refine Vz ?_ | refine Vn ?_)
    refine Ops_callM (S := SvB s) (R := fun w_ => OutR V cbS s (XR X b3 v) w0 (hopR cbS V r h) w_) (by exact Va) rfl rfl (fun w_ e_ => hop_v cbOk r h w_ (h4.ext e_) (fun c hc => Nat.lt_of_lt_of_le (hX4 c hc) e_.size) (hg h hhm) (hrt h hhm)) ?_
    rintro u w6 w5 e5 m6 ⟨h6, ao, c, rfl, hN, hlc, hnc, hfr⟩
    have k36 := m6.blk (k34.ext e5) ((h4.ext e5).ne_b (k34.ext e5))
    have o6 := m6.own (o4.ext e5) (fun b hb hc => ((h4.ext e5).nX b (.inr (.inr hb))).2.2 hc)
    have m26 := (m4.ext e5).trans m6
    have hl2 := hopR_len cbOk.len V r h
    have herr : errK (hopR cbS V r) r.hops (k + 1) = fstE (hopR cbS V r) r.hops := if_neg (Nat.succ_ne_zero k)
    repeat (first | refine Vx ?_ | (apply Ops_q; (case hon => exact Va); (case hd => rfl); (case hq => exact YlA)) | refine Vr ?_ | refine Vt ?_ | refine Vf ?_ | refine Vm ?_ | refine Ve ?_ | refine Vo ?_ | refine Vz ?_ | refine Vn ?_)
    by_cases t1 : k = 0
    · have d1 : decide ((k : Int) = 0) = true := decide_eq_true (by omega)
      have hf : fstE (hopR cbS V r) r.hops = (hopR cbS V r h).1 := by
        subst t1
        cases hq : r.hops with
        | nil => rw [hq] at hh; cases hh
        | cons z H => rw [hq] at hh; simp at hh; subst hh; rfl
      refine V_yes rfl d1 ?_
      repeat (first | refine Vx ?_ | (apply Ops_q; (case hon => exact Va); (case hd => rfl); (case hq => exact YlA)) | refine Vr ?_ | refine Vt ?_ | refine Vf ?_ | refine Vm ?_ | refine Ve ?_ | refine Vo ?_ | refine Vz ?_ | refine Vn ?_)
      refine Ops_appendA (M := (hopR cbS V r h).2.map Nh.cells) (by exact Va) rfl rfl rfl rfl (List.length_map ..).symm o6 hN hnc (nhs_one _).1 (nhs_one _).2 (by rw [List.length_map, List.length_map]; omega) rfl m26.size ?_
      intro v' w7 o7 g7 d7
      have h7 : SvM V cbS s (XR X b3 v') w0 w7 := ((h6.toX (X' := fun c => XR X b3 v c ∨ v'.ownBlock = some c) (fun c hc => by
        rcases hc with hc | hc
        · exact .inl hc
        · rcases d7 with d7 | ⟨b, d7, d8⟩
          · exact .inl (.inr (.inr (d7 ▸ hc)))
          · rw [d7] at hc; cases hc; exact .inr d8)).mod (Mod.grow (S := fun c => v.ownBlock = some c) (.of_ext (Ext.refl _)) g7 (fun b hb => .inl hb)) (fun c hc => .inl (.inr (.inr hc)))).toX (fun c hc => by
        rcases hc with hc | hc | hc
        · exact .inl (.inl (.inl hc))
        · exact .inl (.inl (.inr (.inl hc)))
        · exact .inl (.inr hc))
      have k37 := grow_blk g7 k36 nb.symm
      have m27 := m26.grow g7 (fun b hb => .inr (o6.ge hb))
      repeat (first | refine Vx ?_ | (apply Ops_q; (case hon => exact Va); (case hd => rfl); (case hq => exact YlA)) | refine Vr ?_ | refine Vt ?_ | refine Vf ?_ | refine Vm ?_ | refine Ve ?_ | refine Vo ?_ | refine Vz ?_ | refine Vn ?_)
      refine ⟨(k + 1, v'), by rw [herr, hf, ← eh]; exact (by repeat (first | exact trivial | refine ⟨rfl, ?_⟩)), ⟨m27, hkl, h7, k37, ?_, dis_app d7 nb k36.lt⟩, by simp only; omega⟩
      dsimp only
      rw [hfl, List.map_append]
      exact o7
    · have d1 : decide ((k : Int) = 0) = false := decide_eq_false (by omega)
      have hf : fstE (hopR cbS V r) r.hops = errK (hopR cbS V r) r.hops k := (if_neg t1).symm
      refine V_no rfl d1 ?_
      repeat (first | refine Vx ?_ | (apply Ops_q; (case hon => exact Va); (case hd => rfl); (case hq => exact YlA)) | refine Vr ?_ | refine Vt ?_ | refine Vf ?_ | refine Vm ?_ | refine Ve ?_ | refine Vo ?_ | refine Vz ?_ | refine Vn ?_)
      refine Ops_appendA (M := (hopR cbS V r h).2.map Nh.cells) (by exact Va) rfl rfl rfl rfl (List.length_map ..).symm o6 hN hnc (nhs_one _).1 (nhs_one _).2 (by rw [List.length_map, List.length_map]; omega) rfl m26.size ?_
      intro v' w7 o7 g7 d7
      have h7 : SvM V cbS s (XR X b3 v') w0 w7 := ((h6.toX (X' := fun c => XR X b3 v c ∨ v'.ownBlock = some c) (fun c hc => by
        rcases hc with hc | hc
        · exact .inl hc
        · rcases d7 with d7 | ⟨b, d7, d8⟩
          · exact .inl (.inr (.inr (d7 ▸ hc)))
          · rw [d7] at hc; cases hc; exact .inr d8)).mod (Mod.grow (S := fun c => v.ownBlock = some c) (.of_ext (Ext.refl _)) g7 (fun b hb => .inl hb)) (fun c hc => .inl (.inr (.inr hc)))).toX (fun c hc => by
        rcases hc with hc | hc | hc
        · exact .inl (.inl (.inl hc))
        · exact .inl (.inl (.inr (.inl hc)))
        · exact .inl (.inr hc))
      have k37 := grow_blk g7 k36 nb.symm
      have m27 := m26.grow g7 (fun b hb => .inr (o6.ge hb))
      repeat (first | refine Vx ?_ | (apply Ops_q; (case hon => exact Va); (case hd => rfl); (case hq => exact YlA)) | refine Vr ?_ | refine Vt ?_ | refine Vf ?_ | refine Vm ?_ | refine Ve ?_ | refine Vo ?_ | refine Vz ?_ | refine Vn ?_)
      refine ⟨(k + 1, v'), by rw [herr, hf, ← eh]; exact (by repeat (first | exact trivial | refine ⟨rfl, ?_⟩)), ⟨m27, hkl, h7, k37, ?_, dis_app d7 nb k36.lt⟩, by simp only; omega⟩
      dsimp only
      rw [hfl, List.map_append]
      exact o7
  · obtain rfl : k = r.hops.length := by have := of_decide_eq_false hgd; omega
    rw [List.take_length] at o2
    have hrq := rou_eq cbS V r
    unfold routeS at hrq
    have hek : errK (hopR cbS V r) r.hops r.hops.length = fstE (hopR cbS V r) r.hops := by
      unfold errK
      split
      · rename_i e; rw [List.length_eq_zero_iff.1 e]; rfl
      · rfl
    rw [hek]
    have hH : (r.hops.flatMap fun h => (hopR cbS V r h).2).length ≤ 4096 := by
      have : ∀ (L : List Nh), (L.flatMap fun h => (hopR cbS V r h).2).length ≤ 64 * L.length := by
        intro L
        induction L with
        | nil => simp
        | cons z L ih =>
          have := hopR_len cbOk.len V r z
          simp only [List.flatMap_cons, List.length_append, List.length_cons]; omega
      have := this r.hops
      omega
    generalize (r.hops.flatMap fun h => (hopR cbS V r h).2) = H at *
    by_cases t2 : H = []
    · subst t2
      rw [if_pos rfl] at hrq
      obtain ⟨ao, c, rfl, _⟩ := o2.slice2
      rw [List.length_map]
      repeat (first | refine Vx ?_ | (apply Ops_q; (case hon => exact Va); (case hd => rfl); (case hq => exact YlA)) | refine Vr ?_ | refine Vt ?_ | refine Vf ?_ | refine Vm ?_ | refine Ve ?_ | refine Vo ?_ | refine Vz ?_ | refine Vn ?_)
      refine ret2 (by first | exact .inl rfl | exact .inr rfl) rfl rfl rfl ?_
      exact Does_mk (fun w' he => by rw [hrq]; exact (OutR.nil (h2.toX (fun c hc => .inl (.inl hc))) _).ext he) m2
    · have hpos : 0 < H.length := List.length_pos_iff.2 t2
      rw [if_neg t2] at hrq
      obtain ⟨g, c, rfl, hge, hlt, _⟩ := o2.addr (by simpa using t2)
      rw [List.length_map] at o2 ⊢
      have hD : Dat w2 w.heap.size g H.length c H := ⟨o2, rfl⟩
      have d2 : decide ((H.length : Int) = 0) = false := decide_eq_false (by omega)
      repeat (first | refine Vx ?_ | (apply Ops_q; (case hon => exact Va); (case hd => rfl); (case hq => exact YlA)) | refine Vr ?_ | refine Vt ?_ | refine Vf ?_ | refine Vm ?_ | refine Ve ?_ | refine Vo ?_ | refine Vz ?_ | refine Vn ?_)
      refine V_no rfl d2 ?_
      repeat (first | refine Vx ?_ | (apply Ops_q; (case hon => exact Va); (case hd => rfl); (case hq => exact YlA)) | refine Vr ?_ | refine Vt ?_ | refine Vf ?_ | refine Vm ?_ | refine Ve ?_ | refine Vo ?_ | refine Vz ?_ | refine Vn ?_)
      refine Ops_callM (S := Blk1 g) (R := fun w_ => CombR w_.heap.size H) (by exact Va) rfl rfl (fun w_ e_ => combined_v H w_ (hD.ext e_) (by omega)) ?_
      rintro u w4 w3 e3 m4 ⟨ao, c', rfl, hN, hlc, hnc, hfr⟩
      have h4 : SvM V cbS s (XR X b3 (.slice (some ⟨g, 0, none⟩) H.length c)) w0 w4 := (h2.ext e3).mod m4 (fun x hx => .inr (.inr (by cases hx; rfl)))
      have m24 : Mod (SvB s) w w4 := (m2.ext e3).trans' m4 (fun x hx => .inr (by cases hx; exact hge))
      have h4X := h4.toX (X' := X) (fun x hx => .inl (.inl hx))
      repeat (first | refine Vx ?_ | (apply Ops_q; (case hon => exact Va); (case hd => rfl); (case hq => exact YlA)) | refine Vr ?_ | refine Vt ?_ | refine Vf ?_ | refine Vm ?_ | refine Ve ?_ | refine Vo ?_ | refine Vz ?_ | refine Vn ?_)
      refine ret2 (by first | exact .inl rfl | exact .inr rfl) rfl rfl rfl ?_
      refine Does_mk (fun w' he => ?_) m24
      rw [hrq]
      exact ⟨h4X.ext he, ao, c', rfl, hN.ext he, hlc, hnc, fun a ha => ⟨Nat.le_trans (m2.ext e3).size (hfr a ha).1, Nat.lt_of_lt_of_le (hfr a ha).2 he.size⟩⟩
end
end Go.Proofs.Ytkdjbddjblahkaa

/-
  Routes (layer 49): what any route resolves to; the lists that a solver takes.
  Conditions: addresses and routers are numbers of 32 bits; lists are not too long.
-/
namespace Go.Proofs.Ytkdjbddjblahkaa
open Go.RowKit

section
variable {V : List Rt} {s : Sv} {X : Nat → Prop} {w0 : World}
theorem routeC_v : ∀ (d i : Nat) (r : Rt), V[i]? = some r → dep V i < (d : Int) → RouteC V cbS s w0 r
  | 0, i, _, _, h => absurd (dep_nonneg V i) (by omega)
  | d + 1, i, r, hr, h => fun X w hs hX => by
    have hm : r ∈ V := List.mem_of_getElem? hr
    refine route_v r w hs hX (hs.r.s0.rts.mem r hm) (hs.r.s0.hops r hm).1 (hs.r.s0.good r hm).2 fun x hx j y hj hl _ hy => routeC_v d j y hy ?_
    have := dep_kid hr hx hj hl
    omega
/-- Any route with good hops. -/
theorem routeT_v (r : Rt) (w : World) (hs : SvM V cbS s X w0 w) (hX : ∀ k, X k → k < w.heap.size) (hr : RtM w0 r) (hn : r.hops.length ≤ 64) (hg : ∀ h ∈ r.hops, h.good) :
    Calls Try.prog 36 #[.pointer (some ⟨s.b, 0, none⟩), r.val] w (Does (SvB s) (OutR V cbS s X w0 (rou cbS V r) w) w) :=
  route_v r w hs hX hr hn hg fun _ _ j x _ _ hd hx => routeC_v 16 j x hx hd
end
/-! ### Lists that pass -/
theorem firstE_inv {f : Nat → Int} : ∀ {n}, firstE f n = 0 → ∀ k, k < n → f k = 0
  | 0, _, k, hk => absurd hk (Nat.not_lt_zero k)
  | n + 1, h, k, hk => by
    have h1 : firstE f n = 0 := Classical.byContradiction fun h2 => by rw [firstE, if_pos h2] at h; exact h2 h
    rw [firstE, if_neg (fun h3 => h3 h1)] at h
    rcases Nat.lt_or_ge k n with h4 | h4
    · exact firstE_inv h1 k h4
    · rw [show k = n by omega]; exact h
theorem errT_zero {r : Rt} (h : errT r = 0) : r.p.valid = true ∧ r.hops.length ≤ 64 ∧ ∀ x ∈ r.hops, ¬badH x := by
  unfold errT at h
  split at h
  · cases h
  · rename_i h1
    split at h
    · cases h
    · split at h
      · cases h
      · split at h
        · cases h
        · rename_i h4
          refine ⟨by simpa using h1, by omega, fun x hx hb => ?_⟩
          obtain ⟨k, hk, e⟩ := List.getElem_of_mem hx
          have := firstE_inv h k hk
          rw [errH_bad (by rw [List.getElem?_eq_getElem hk, e]) hb] at this
          cases this
theorem chkR_zero {L : List Rt} (h : chkR L = 0) : L.length ≤ 2000 ∧ (∀ r ∈ L, errT r = 0) ∧ ∀ (k : Nat) (g r : Rt), L[k]? = some g → L[k + 1]? = some r → cmpR g r < 0 := by
  unfold chkR at h
  split at h
  · cases h
  · rename_i hn
    have hc := firstE_inv h
    refine ⟨by omega, fun r hr => ?_, fun k g r hg hr => ?_⟩
    · obtain ⟨k, hk, e⟩ := List.getElem_of_mem hr
      have := hc k hk
      refine Classical.byContradiction fun h2 => ?_
      rw [errC_t (by rw [List.getElem?_eq_getElem hk, e]) h2] at this
      exact h2 this
    · have hk := (List.getElem?_eq_some_iff.1 hr).1
      have := hc (k + 1) hk
      unfold errC at this
      rw [hr] at this
      dsimp only at this
      split at this
      · rename_i h2; exact absurd this h2
      · split at this
        · cases this
        · split at this
          · cases this
          · rename_i h3
            rw [List.getD_eq_getElem?_getD, Nat.add_sub_cancel, hg] at h3
            simp only [Option.getD_some] at h3
            omega
theorem cmpR_lt {g r : Rt} (h : cmpR g r < 0) (hne : ¬g.p = r.p) : cmpP g.p r.p < 0 := by
  unfold cmpR or3 at h
  split at h
  · exact h
  · rename_i h1
    exact absurd (Classical.byContradiction fun h2 => by
      have h3 : ¬pLt g.p r.p := fun h4 => h1 (by unfold cmpP; rw [if_pos h4]; decide)
      exact h1 (by unfold cmpP; rw [if_neg h3, if_neg h2]; decide)) hne
theorem actv_up {L : List Rt} (h : Actv L) : ∀ (j i : Nat) (g r : Rt), i < j → L[i]? = some g → L[j]? = some r → cmpP g.p r.p < 0
  | 0, _, _, _, hij, _, _ => absurd hij (Nat.not_lt_zero _)
  | j + 1, i, g, r, hij, hg, hr => by
    have hjl := (List.getElem?_eq_some_iff.1 hr).1
    obtain ⟨m, hm⟩ : ∃ m, L[j]? = some m := ⟨_, List.getElem?_eq_getElem (by omega)⟩
    have hd := h.2 (j + 1) hjl
    rw [dupB_at (by rw [Nat.add_sub_cancel]; exact hm) hr] at hd
    have hne : ¬m.p = r.p := fun e => of_decide_eq_false hd ⟨Nat.succ_pos _, e⟩
    have h1 := cmpR_lt ((chkR_zero h.1).2.2 j m r hm hr) hne
    rcases Nat.lt_or_ge i j with h2 | h2
    · have h3 := actv_up h j i g m h2 hg hm
      rw [cmpP_neg] at *
      omega
    · obtain rfl : i = j := by omega
      rw [hm] at hg; cases hg; exact h1
theorem actv_dist {L : List Rt} (h : Actv L) : Dist L := fun i j r s hr hs e => by
  rcases Nat.lt_trichotomy i j with h1 | h1 | h1
  · have := actv_up h j i r s h1 hr hs
    rw [cmpP_neg, e] at this; omega
  · exact h1
  · have := actv_up h i j s r h1 hs hr
    rw [cmpP_neg, e] at this; omega
end Go.Proofs.Ytkdjbddjblahkaa

/-
  Routes (layer 49): the reference: what a route resolves to.
  Conditions: addresses and routers are numbers of 32 bits; lists are not too long.
-/
namespace Go.Proofs.Ytkdjbddjblahkaa
open Go.RowKit

theorem insA_len : ∀ (L M : List Nh), (insA M L).length ≤ M.length + L.length
  | [], M => Nat.le_refl _
  | y :: L, M => Nat.le_trans (insA_len L (ins y M)) (by have := (ins_len y M).2; simp only [List.length_cons]; omega)
theorem insA_app (L L' M : List Nh) : insA M (L ++ L') = insA (insA M L) L' := List.foldl_append
theorem insA_nil {L : List Nh} : insA [] L = [] ↔ L = [] := by
  constructor
  · intro h
    cases L with
    | nil => rfl
    | cons y L => have := insA_pos (y := y) (L := L) (M := []); rw [h] at this; exact absurd this (Nat.lt_irrefl _)
  · intro h; rw [h]; rfl
theorem flat_len {V : List Rt} {r : Rt} (H : List Nh) : (H.flatMap fun h => (hopR cbS V r h).2).length ≤ 64 * H.length := by
  induction H with
  | nil => simp
  | cons z L ih =>
    have := hopR_len cbOk.len V r z
    simp only [List.flatMap_cons, List.length_append, List.length_cons]; omega
set_option maxHeartbeats 8000000 in
theorem hops49_v {ao : Option Addr} {V : List Rt} (c : Nat) (r : Rt) (w : World) (hV : VL w ao V) (hr : RtM w r) (hn : r.hops.length ≤ 64) (hg : ∀ h ∈ r.hops, h.good ∧ ¬badH h)
    (hrt : ∀ h ∈ r.hops, ∀ j x, nxI V h = some j → loopsB V j r = false → dep V j < 16 → V[j]? = some x → Hops49C V ao c x) :
    Calls Try.prog 38 #[.slice ao V.length c, r.val] w (Gives (H49R (rou cbS V r) w) w) := by
  refine V_enter (vs := [_, _]) Try.func38 rfl Try.ntmps38 (Nat.le_of_ble_eq_true rfl) ?_
  repeat (first | refine Vx ?_ | (apply Ops_q; (case hon => exact Va); (case hd => rfl); (case hq => exact YlA)) | refine Vr ?_ | refine Vt ?_ | refine Vf ?_ | refine Vm ?_ | refine Ve ?_ | refine Vo ?_ | refine Vz ?_ | refine Vn ?_)
  (refine Ops_box (by exact Va) rfl rfl rfl ?_; intro w1 b3 n_b3; have k_b3 := n_b3.blk)
  have x1 := n_b3.ext
  clear n_b3
  have kk3 := k_b3
  unfold Rt.cells at k_b3
  repeat (first | refine Vx ?_ | (apply Ops_q; (case hon => exact Va); (case hd => rfl); (case hq => exact YlA)) | refine Vr ?_ | refine Vt ?_ | refine Vf ?_ | refine Vm ?_ | refine Ve ?_ | refine Vo ?_ | refine Vz ?_ | refine Vn ?_)
  clear k_b3
  refine V_loop (fun z : Nat × Value => [(17, .int .i64 z.1), (16, .int .i64 r.hops.length), (15, .slice r.ao r.hops.length r.c), (6, z.2), (7, .int .i64 (errK (hopR cbS V r) r.hops z.1)), (3, .pointer (some ⟨b3, 0, none⟩)), (0, .slice ao V.length c)])
    (fun z w' => Ext w1 w' ∧ z.1 ≤ r.hops.length ∧ Own w' w1.heap.size 48 6 z.2 ((insA [] ((r.hops.take z.1).flatMap fun h => (hopR cbS V r h).2)).map Nh.cells)) (fun z => r.hops.length - z.1) (0, .slice none 0 0)
    (by repeat (first | exact trivial | refine ⟨rfl, ?_⟩)) ⟨Ext.refl _, Nat.zero_le _, Own.nil⟩ ?_
  rintro ⟨k, v⟩ w2 ⟨x2, hk, o2⟩
  dsimp only at hk o2 ⊢
  repeat (first | refine Vx ?_ | (apply Ops_q; (case hon => exact Va); (case hd => rfl); (case hq => exact YlA)) | refine Vr ?_ | refine Vt ?_ | refine Vf ?_ | refine Vm ?_ | refine Ve ?_ | refine Vo ?_ | refine Vz ?_ | refine Vn ?_)
  refine V_cond rfl (fun hgd => ?_) (fun hgd => ?_)
  · have hkl : k < r.hops.length := by have := of_decide_eq_true hgd; omega
    clear hgd
    obtain ⟨h, hh⟩ : ∃ z, r.hops[k]? = some z := ⟨_, List.getElem?_eq_getElem hkl⟩
    have hhm := List.mem_of_getElem? hh
    obtain ⟨ah, eh, hch⟩ := Nhs.at (hr.hops.ext (x1.trans x2)) hh
    have hfl : (r.hops.take (k + 1)).flatMap (fun h => (hopR cbS V r h).2) = (r.hops.take k).flatMap (fun h => (hopR cbS V r h).2) ++ (hopR cbS V r h).2 := by
      rw [List.take_add_one, hh, List.flatMap_append]; simp
    have hl1 := flat_len (V := V) (r := r) (r.hops.take k)
    rw [List.length_take] at hl1
    generalize (r.hops.take k).flatMap (fun h => (hopR cbS V r h).2) = A at *
    have hfl2 : insA [] ((r.hops.take (k + 1)).flatMap fun h => (hopR cbS V r h).2) = insA (insA [] A) (hopR cbS V r h).2 := by rw [hfl, insA_app]
    clear hfl
    have hup : Up (insA [] A) := insA_up List.Pairwise.nil
    have hl2 := insA_len A []
    rw [List.length_nil] at hl2
    generalize insA [] A = B at *
    rw [eh]
    repeat (first | refine Vx ?_ | (apply Ops_q; (case hon => exact Va); (case hd => rfl); (case hq => exact YlA)) | refine Vr ?_ | refine Vt ?_ | refine Vf ?_ | refine Vm ?_ | refine Ve ?_ | refine Vo ?_ | refine Vz ?_ | refine Vn ?_)
    (apply Ops_q; (case hon => (exact Va)); (case hd => rfl); (case hq => exact Yl_indexS (j := k) rfl rfl (by omega)))
    repeat (first | refine Vx ?_ | (apply Ops_q; (case hon => exact Va); (case hd => rfl); (case hq => exact YlA)) | refine Vr ?_ | refine Vt ?_ | refine Vf ?_ | refine Vm ?_ | refine Ve ?_ | refine Vo ?_ | refine Vz ?_ | refine Vn ?_)
    (refine Ops_alloc (by exact Va) rfl ?_; intro w3 b9 n_b9; have k_b9 := n_b9.blk)
    repeat (first | refine Vx ?_ | (apply Ops_q; (case hon => exact Va); (case hd => rfl); (case hq => exact YlA)) | refine Vr ?_ | refine Vt ?_ | refine Vf ?_ | refine Vm ?_ | refine Ve ?_ | refine Vo ?_ | refine Vz ?_ | refine Vn ?_)
    (refine Ops_store (by exact Va) rfl rfl (by assumption) (by first | rfl | exact OneAll.h) ?_; intro w4 u_w4; have k_b9 := u_w4.blk)
    have y4 := u_w4.below n_b9.ext n_b9.ge
    have x4 := x2.trans y4
    have o4 := o2.ext y4
    have k34 := kk3.ext x4
    clear u_w4 n_b9 hch o2
    repeat (first | refine Vx ?_ | (apply Ops_q; (case hon => exact Va); (case hd => rfl); (case hq => exact YlA)) | refine Vr ?_ | refine Vt ?_ | refine Vf ?_ | refine Vm ?_ | refine Ve ?_ | refine Vo ?_ | refine Vz ?_ | refine Vn ?_)
    (refine Ops_callR (by exact Va) rfl rfl (fun w_ e_ => hop49_v c r h w_ (hV.ext (x1.trans (x4.trans e_))) (hg h hhm).1 (hg h hhm).2 (hrt h hhm)) ?_; intro u w5 w0_ e0_ e1_ r_u; have e_w5 := e0_.trans e1_; have b_u := e0_.size; clear e0_ e1_)
    obtain ⟨aF, cF, rfl, hF, hlF, hnF, hfF⟩ := r_u
    have x5 := x4.trans e_w5
    have o5 := o4.ext e_w5
    have hF64 := hopR_len cbOk.len V r h
    have hdj : ∀ a, aF = some a → v.ownBlock ≠ some a.block ∧ a.block < w5.heap.size := fun a ha => ⟨fun e => by have h1 := o4.lt e; have h2 := (hfF a ha).1; omega, (hfF a ha).2⟩
    have herr : errK (hopR cbS V r) r.hops (k + 1) = fstE (hopR cbS V r) r.hops := if_neg (Nat.succ_ne_zero k)
    clear k34 k_b9 o4 hfF
    repeat (first | refine Vx ?_ | (apply Ops_q; (case hon => exact Va); (case hd => rfl); (case hq => exact YlA)) | refine Vr ?_ | refine Vt ?_ | refine Vf ?_ | refine Vm ?_ | refine Ve ?_ | refine Vo ?_ | refine Vz ?_ | refine Vn ?_)
    by_cases t1 : k = 0
    · have d1 : decide ((k : Int) = 0) = true := decide_eq_true (by omega)
      have hf : fstE (hopR cbS V r) r.hops = (hopR cbS V r h).1 := by
        subst t1
        cases hq : r.hops with
        | nil => rw [hq] at hh; cases hh
        | cons z H => rw [hq] at hh; simp at hh; subst hh; rfl
      refine V_yes rfl d1 ?_
      generalize hopR cbS V r h = oF at *
      obtain ⟨eF, F⟩ := oF
      dsimp only at hF hlF hF64 hfl2 ⊢
      repeat (first | refine Vx ?_ | (apply Ops_q; (case hon => exact Va); (case hd => rfl); (case hq => exact YlA)) | refine Vr ?_ | refine Vt ?_ | refine Vf ?_ | refine Vm ?_ | refine Ve ?_ | refine Vo ?_ | refine Vz ?_ | refine Vn ?_)
      refine V_loop (fun z : Nat × Value => [(34, .int .i64 z.1), (33, .int .i64 F.length), (32, .slice aF F.length cF), (6, z.2), (17, .int .i64 k), (16, .int .i64 r.hops.length), (15, .slice (some ah) r.hops.length r.c), (7, .int .i64 (fstE (hopR cbS V r) r.hops)), (3, .pointer (some ⟨b3, 0, none⟩)), (0, .slice ao V.length c)])
        (fun z w' => Ext w1 w' ∧ z.1 ≤ F.length ∧ Nhs w' aF F ∧ (∀ a, aF = some a → z.2.ownBlock ≠ some a.block ∧ a.block < w'.heap.size) ∧ Own w' w1.heap.size 48 6 z.2 ((insA B (F.take z.1)).map Nh.cells)) (fun z => F.length - z.1) (0, v) (by rw [hf]; exact (by repeat (first | exact trivial | refine ⟨rfl, ?_⟩))) ⟨x5, Nat.zero_le _, hF, hdj, o5⟩ ?_
      clear o5 hF hdj x5
      rintro ⟨t, v⟩ w6 ⟨x6, ht, hF, hdj, o6⟩
      dsimp only at ht hdj o6 ⊢
      repeat (first | refine Vx ?_ | (apply Ops_q; (case hon => exact Va); (case hd => rfl); (case hq => exact YlA)) | refine Vr ?_ | refine Vt ?_ | refine Vf ?_ | refine Vm ?_ | refine Ve ?_ | refine Vo ?_ | refine Vz ?_ | refine Vn ?_)
      refine V_cond rfl (fun hg2 => ?_) (fun hg2 => ?_)
      · have htl : t < F.length := by have := of_decide_eq_true hg2; omega
        clear hg2
        obtain ⟨y, hy⟩ : ∃ z, F[t]? = some z := ⟨_, List.getElem?_eq_getElem htl⟩
        obtain ⟨aq, rfl, hcy⟩ := Nhs.at hF hy
        have hst : insA B (F.take (t + 1)) = ins y (insA B (F.take t)) := by rw [List.take_add_one, hy, insA_app]; rfl
        have hup2 : Up (insA B (F.take t)) := insA_up hup
        have hl3 := insA_len (F.take t) B
        rw [List.length_take] at hl3
        generalize insA B (F.take t) = C at *
        repeat (first | refine Vx ?_ | (apply Ops_q; (case hon => exact Va); (case hd => rfl); (case hq => exact YlA)) | refine Vr ?_ | refine Vt ?_ | refine Vf ?_ | refine Vm ?_ | refine Ve ?_ | refine Vo ?_ | refine Vz ?_ | refine Vn ?_)
        (apply Ops_q; (case hon => (exact Va)); (case hd => rfl); (case hq => exact Yl_indexS (j := t) rfl rfl (by omega)))
        repeat (first | refine Vx ?_ | (apply Ops_q; (case hon => exact Va); (case hd => rfl); (case hq => exact YlA)) | refine Vr ?_ | refine Vt ?_ | refine Vf ?_ | refine Vm ?_ | refine Ve ?_ | refine Vo ?_ | refine Vz ?_ | refine Vn ?_)
        (refine Ops_alloc (by exact Va) rfl ?_; intro w7 b13 n_b13; have k_b13 := n_b13.blk)
        repeat (first | refine Vx ?_ | (apply Ops_q; (case hon => exact Va); (case hd => rfl); (case hq => exact YlA)) | refine Vr ?_ | refine Vt ?_ | refine Vf ?_ | refine Vm ?_ | refine Ve ?_ | refine Vo ?_ | refine Vz ?_ | refine Vn ?_)
        (refine Ops_store (by exact Va) rfl rfl (by assumption) (by first | rfl | exact OneAll.h) ?_; intro w8 u_w8; have k_b13 := u_w8.blk)
        have y8 := u_w8.below n_b13.ext n_b13.ge
        have x8 := x6.trans y8
        have o8 := o6.ext y8
        clear u_w8 n_b13 hcy o6
        repeat (first | refine Vx ?_ | (apply Ops_q; (case hon => exact Va); (case hd => rfl); (case hq => exact YlA)) | refine Vr ?_ | refine Vt ?_ | refine Vf ?_ | refine Vm ?_ | refine Ve ?_ | refine Vo ?_ | refine Vz ?_ | refine Vn ?_)
        refine Ops_callM (S := fun c0 => v.ownBlock = some c0) (R := fun w_ => CmbR w1.heap.size v (ins y C) w_) (by exact Va) rfl rfl (fun w_ e_ => combined49_v v C y w_ (o8.ext e_) hup2 (by omega) (x8.trans e_).size) ?_
        rintro v' w10 w9 e9 m10 ⟨o10, d10⟩
        have x9 := x8.trans e9
        have x10 : Ext w1 w10 := m10.ext_of x9 (fun c0 hc0 => o8.ge hc0)
        have hF10 : Nhs w10 (some aq) F := m10.arr ((hF.ext y8).ext e9) (fun a ha h1 => (hdj a ha).1 h1)
        have hs9 := Nat.le_trans y8.size e9.size
        have hd10 : ∀ a : Addr, some aq = some a → v'.ownBlock ≠ some a.block ∧ a.block < w10.heap.size := fun a ha => by
          obtain ⟨h1, h2⟩ := hdj a ha
          exact ⟨dis_app d10 h1 (by omega), by have := m10.size; omega⟩
        repeat (first | refine Vx ?_ | (apply Ops_q; (case hon => exact Va); (case hd => rfl); (case hq => exact YlA)) | refine Vr ?_ | refine Vt ?_ | refine Vf ?_ | refine Vm ?_ | refine Ve ?_ | refine Vo ?_ | refine Vz ?_ | refine Vn ?_)
        refine ⟨(t + 1, v'), (by repeat (first | exact trivial | refine ⟨rfl, ?_⟩)), ⟨x10, htl, hF10, hd10, ?_⟩, by simp only; omega⟩
        dsimp only
        rw [hst]; exact o10
      · obtain rfl : t = F.length := by have := of_decide_eq_false hg2; omega
        rw [List.take_length] at o6
        repeat (first | refine Vx ?_ | (apply Ops_q; (case hon => exact Va); (case hd => rfl); (case hq => exact YlA)) | refine Vr ?_ | refine Vt ?_ | refine Vf ?_ | refine Vm ?_ | refine Ve ?_ | refine Vo ?_ | refine Vz ?_ | refine Vn ?_)
        refine ⟨(k + 1, v), by rw [herr, ← eh]; exact (by repeat (first | exact trivial | refine ⟨rfl, ?_⟩)), ⟨x6, hkl, ?_⟩, by simp only; omega⟩
        dsimp only
        rw [hfl2]; exact o6
    · have d1 : decide ((k : Int) = 0) = false := decide_eq_false (by omega)
      have hf : fstE (hopR cbS V r) r.hops = errK (hopR cbS V r) r.hops k := (if_neg t1).symm
      refine V_no rfl d1 ?_
      generalize hopR cbS V r h = oF at *
      obtain ⟨eF, F⟩ := oF
      dsimp only at hF hlF hF64 hfl2 ⊢
      repeat (first | refine Vx ?_ | (apply Ops_q; (case hon => exact Va); (case hd => rfl); (case hq => exact YlA)) | refine Vr ?_ | refine Vt ?_ | refine Vf ?_ | refine Vm ?_ | refine Ve ?_ | refine Vo ?_ | refine Vz ?_ | refine Vn ?_)
      refine V_loop (fun z : Nat × Value => [(34, .int .i64 z.1), (33, .int .i64 F.length), (32, .slice aF F.length cF), (6, z.2), (17, .int .i64 k), (16, .int .i64 r.hops.length), (15, .slice (some ah) r.hops.length r.c), (7, .int .i64 (fstE (hopR cbS V r) r.hops)), (3, .pointer (some ⟨b3, 0, none⟩)), (0, .slice ao V.length c)])
        (fun z w' => Ext w1 w' ∧ z.1 ≤ F.length ∧ Nhs w' aF F ∧ (∀ a, aF = some a → z.2.ownBlock ≠ some a.block ∧ a.block < w'.heap.size) ∧ Own w' w1.heap.size 48 6 z.2 ((insA B (F.take z.1)).map Nh.cells)) (fun z => F.length - z.1) (0, v) (by rw [hf]; exact (by repeat (first | exact trivial | refine ⟨rfl, ?_⟩))) ⟨x5, Nat.zero_le _, hF, hdj, o5⟩ ?_
      clear o5 hF hdj x5
      rintro ⟨t, v⟩ w6 ⟨x6, ht, hF, hdj, o6⟩
      dsimp only at ht hdj o6 ⊢
      repeat (first | refine Vx ?_ | (apply Ops_q; (case hon => exact Va); (case hd => rfl); (case hq => exact YlA)) | refine Vr ?_ | refine Vt ?_ | refine Vf ?_ | refine Vm ?_ | refine Ve ?_ | refine Vo ?_ | refine Vz ?_ | refine Vn ?_)
      refine V_cond rfl (fun hg2 => ?_) (fun hg2 => ?_)
      · have htl : t < F.length := by have := of_decide_eq_true hg2; omega
        clear hg2
        obtain ⟨y, hy⟩ : ∃ z, F[t]? = some z := ⟨_, List.getElem?_eq_getElem htl⟩
        obtain ⟨aq, rfl, hcy⟩ := Nhs.at hF hy
        have hst : insA B (F.take (t + 1)) = ins y (insA B (F.take t)) := by rw [List.take_add_one, hy, insA_app]; rfl
        have hup2 : Up (insA B (F.take t)) := insA_up hup
        have hl3 := insA_len (F.take t) B
        rw [List.length_take] at hl3
        generalize insA B (F.take t) = C at *
        repeat (first | refine Vx ?_ | (apply Ops_q; (case hon => exact Va); (case hd => rfl); (case hq => exact YlA)) | refine Vr ?_ | refine Vt ?_ | refine Vf ?_ | refine Vm ?_ | refine Ve ?_ | refine Vo ?_ | refine Vz ?_ | refine Vn ?_)
        (apply Ops_q; (case hon => (exact Va)); (case hd => rfl); (case hq => exact Yl_indexS (j := t) rfl rfl (by omega)))
        repeat (first | refine Vx ?_ | (apply Ops_q; (case hon => exact Va); (case hd => rfl); (case hq => exact YlA)) | refine Vr ?_ | refine Vt ?_ | refine Vf ?_ | refine Vm ?_ | refine Ve ?_ | refine Vo ?_ | refine Vz ?_ | refine Vn ?_)
        (refine Ops_alloc (by exact Va) rfl ?_; intro w7 b13 n_b13; have k_b13 := n_b13.blk)
        repeat (first | refine Vx ?_ | (apply Ops_q; (case hon => exact Va); (case hd => rfl); (case hq => exact YlA)) | refine Vr ?_ | refine Vt ?_ | refine Vf ?_ | refine Vm ?_ | refine Ve ?_ | refine Vo ?_ | refine Vz ?_ | refine Vn ?_)
        (refine Ops_store (by exact Va) rfl rfl (by assumption) (by first | rfl | exact OneAll.h) ?_; intro w8 u_w8; have k_b13 := u_w8.blk)
        have y8 := u_w8.below n_b13.ext n_b13.ge
        have x8 := x6.trans y8
        have o8 := o6.ext y8
        clear u_w8 n_b13 hcy o6
        repeat (first | refine Vx ?_ | (apply Ops_q; (case hon => exact Va); (case hd => rfl); (case hq => exact YlA)) | refine Vr ?_ | refine Vt ?_ | refine Vf ?_ | refine Vm ?_ | refine Ve ?_ | refine Vo ?_ | refine Vz ?_ | refine Vn ?_)
        refine Ops_callM (S := fun c0 => v.ownBlock = some c0) (R := fun w_ => CmbR w1.heap.size v (ins y C) w_) (by exact Va) rfl rfl (fun w_ e_ => combined49_v v C y w_ (o8.ext e_) hup2 (by omega) (x8.trans e_).size) ?_
        rintro v' w10 w9 e9 m10 ⟨o10, d10⟩
        have x9 := x8.trans e9
        have x10 : Ext w1 w10 := m10.ext_of x9 (fun c0 hc0 => o8.ge hc0)
        have hF10 : Nhs w10 (some aq) F := m10.arr ((hF.ext y8).ext e9) (fun a ha h1 => (hdj a ha).1 h1)
        have hs9 := Nat.le_trans y8.size e9.size
        have hd10 : ∀ a : Addr, some aq = some a → v'.ownBlock ≠ some a.block ∧ a.block < w10.heap.size := fun a ha => by
          obtain ⟨h1, h2⟩ := hdj a ha
          exact ⟨dis_app d10 h1 (by omega), by have := m10.size; omega⟩
        repeat (first | refine Vx ?_ | (apply Ops_q; (case hon => exact Va); (case hd => rfl); (case hq => exact YlA)) | refine Vr ?_ | refine Vt ?_ | refine Vf ?_ | refine Vm ?_ | refine Ve ?_ | refine Vo ?_ | refine Vz ?_ | refine Vn ?_)
        refine ⟨(t + 1, v'), (by repeat (first | exact trivial | refine ⟨rfl, ?_⟩)), ⟨x10, htl, hF10, hd10, ?_⟩, by simp only; omega⟩
        dsimp only
        rw [hst]; exact o10
      · obtain rfl : t = F.length := by have := of_decide_eq_false hg2; omega
        rw [List.take_length] at o6
        repeat (first | refine Vx ?_ | (apply Ops_q; (case hon => exact Va); (case hd => rfl); (case hq => exact YlA)) | refine Vr ?_ | refine Vt ?_ | refine Vf ?_ | refine Vm ?_ | refine Ve ?_ | refine Vo ?_ | refine Vz ?_ | refine Vn ?_)
        refine ⟨(k + 1, v), by rw [herr, ← eh]; exact (by repeat (first | exact trivial | refine ⟨rfl, ?_⟩)), ⟨x6, hkl, ?_⟩, by simp only; omega⟩
        dsimp only
        rw [hfl2]; exact o6
  · obtain rfl : k = r.hops.length := by have := of_decide_eq_false hgd; omega
    rw [List.take_length] at o2
    have hrq := rou_eq cbS V r
    unfold routeS at hrq
    have hek : errK (hopR cbS V r) r.hops r.hops.length = fstE (hopR cbS V r) r.hops := by
      unfold errK
      split
      · rename_i e; rw [List.length_eq_zero_iff.1 e]; rfl
      · rfl
    rw [hek]
    generalize (r.hops.flatMap fun h => (hopR cbS V r h).2) = H at *
    obtain ⟨ao2, c2, rfl, hA2, hlc2, hnc2⟩ := o2.slice2
    rw [List.length_map] at hlc2 ⊢
    repeat (first | refine Vx ?_ | (apply Ops_q; (case hon => exact Va); (case hd => rfl); (case hq => exact YlA)) | refine Vr ?_ | refine Vt ?_ | refine Vf ?_ | refine Vm ?_ | refine Ve ?_ | refine Vo ?_ | refine Vz ?_ | refine Vn ?_)
    by_cases t2 : H = []
    · subst t2
      rw [if_pos rfl] at hrq
      have d2 : decide (((insA [] []).length : Int) = 0) = true := rfl
      refine V_yes rfl d2 ?_
      repeat (first | refine Vx ?_ | (apply Ops_q; (case hon => exact Va); (case hd => rfl); (case hq => exact YlA)) | refine Vr ?_ | refine Vt ?_ | refine Vf ?_ | refine Vm ?_ | refine Ve ?_ | refine Vo ?_ | refine Vz ?_ | refine Vn ?_)
      refine ret2 (by first | exact .inl rfl | exact .inr rfl) rfl rfl rfl ?_
      exact Gives_mk (fun w' he => by rw [hrq]; exact H49R.nil _ w w') (x1.trans x2)
    · rw [if_neg t2] at hrq
      have hpos : 0 < (insA [] H).length := List.length_pos_iff.2 (fun e => t2 (insA_nil.1 e))
      have d2 : decide (((insA [] H).length : Int) = 0) = false := decide_eq_false (by omega)
      refine V_no rfl d2 ?_
      have hmin : (min ((insA [] H).length : Int) 64) = ((cbS H).length : Int) := by unfold cbS; rw [List.length_take]; omega
      have hle : (cbS H).length ≤ (insA [] H).length := by unfold cbS; rw [List.length_take]; omega
      repeat (first | refine Vx ?_ | (apply Ops_q; (case hon => exact Va); (case hd => rfl); (case hq => exact YlA)) | refine Vr ?_ | refine Vt ?_ | refine Vf ?_ | refine Vm ?_ | refine Ve ?_ | refine Vo ?_ | refine Vz ?_ | refine Vn ?_)
      rw [hmin]
      (apply Ops_q; (case hon => (exact Va)); (case hd => rfl); (case hq => exact Yl_sliceHr (i := (cbS H).length) rfl rfl hle hlc2))
      repeat (first | refine Vx ?_ | (apply Ops_q; (case hon => exact Va); (case hd => rfl); (case hq => exact YlA)) | refine Vr ?_ | refine Vt ?_ | refine Vf ?_ | refine Vm ?_ | refine Ve ?_ | refine Vo ?_ | refine Vz ?_ | refine Vn ?_)
      refine ret2 (by first | exact .inl rfl | exact .inr rfl) rfl rfl rfl ?_
      refine Gives_mk (fun w' he => ?_) (x1.trans x2)
      rw [hrq]
      refine ⟨ao2, c2, rfl, ?_, by dsimp only; omega, hnc2, fun a ha => ?_⟩
      · have : Nhs w' ao2 ((insA [] H).take 64) := by unfold Nhs; rw [List.map_take]; exact (hA2.ext he).take 64
        exact this
      · subst ha
        exact ⟨Nat.le_trans x1.size (o2.ge rfl), Nat.lt_of_lt_of_le (o2.lt rfl) he.size⟩
theorem hops49C_v {ao : Option Addr} {V : List Rt} (c : Nat) : ∀ (d i : Nat) (r : Rt), V[i]? = some r → dep V i < (d : Int) → Hops49C V ao c r
  | 0, i, _, _, h => absurd (dep_nonneg V i) (by omega)
  | d + 1, i, r, hr, h => fun w hV => by
    have hm : r ∈ V := List.mem_of_getElem? hr
    refine hops49_v c r w hV (hV.rts.mem r hm) (hV.hops r hm).1 (fun x hx => ⟨(hV.good r hm).2 x hx, (hV.hops r hm).2 x hx⟩) fun x hx j y hj hl _ hy => hops49C_v c d j y hy ?_
    have := dep_kid hr hx hj hl
    omega
/-- Any route with good hops. -/
theorem hops49T_v {ao : Option Addr} {V : List Rt} (c : Nat) (r : Rt) (w : World) (hV : VL w ao V) (hr : RtM w r) (hn : r.hops.length ≤ 64) (hg : ∀ h ∈ r.hops, h.good ∧ ¬badH h) :
    Calls Try.prog 38 #[.slice ao V.length c, r.val] w (Gives (H49R (rou cbS V r) w) w) :=
  hops49_v c r w hV hr hn hg fun _ _ j x _ _ hd hx => hops49C_v c 16 j x hx hd
end Go.Proofs.Ytkdjbddjblahkaa

/-
  Routes (layer 49): a new solver.
  Conditions: addresses and routers are numbers of 32 bits; lists are not too long.
-/
namespace Go.Proofs.Ytkdjbddjblahkaa
open Go.RowKit

def NewR (V : List Rt) (w : World) (v : Value) (w' : World) : Prop := ∃ (s : Sv) (w0 : World), Ext w w0 ∧ SvM V cbS s (fun _ => False) w0 w' ∧ v = .pointer (some ⟨s.b, 0, none⟩)
theorem actL_actv (L : List Rt) : Actv (actL L) := by
  by_cases h : Actv L
  · rw [actL_yes h]; exact h
  · rw [actL_no h]
    exact ⟨rfl, fun k hk => absurd hk (Nat.not_lt_zero k)⟩
/-- The active list in memory. -/
theorem act_mem {w : World} {ao : Option Addr} {L : List Rt} (c : Nat) (hL : Rts w ao L) : ∃ ao' c', ActR ao L c (.slice ao' (actL L).length c') ∧ Rts w ao' (actL L) := by
  by_cases h : Actv L
  · rw [actL_yes h]
    exact ⟨ao, c, ⟨fun _ => rfl, fun h2 => absurd h h2⟩, hL⟩
  · rw [actL_no h]
    exact ⟨none, 0, ⟨fun h2 => absurd h2 h, fun _ => rfl⟩, Rts.nil⟩
set_option maxHeartbeats 1000000 in
theorem newSolver_v (ao : Option Addr) (L : List Rt) (c : Nat) (w : World) (hL : Rts w ao L) (hn : L.length ≤ 1000000000) :
    Calls Try.prog 35 #[.slice ao L.length c] w (Gives (NewR (actL L) w) w) := by
  obtain ⟨ao', c', hR, hV⟩ := act_mem c hL
  have hact := actL_actv L
  generalize actL L = V at *
  obtain ⟨hlen, herr, _⟩ := chkR_zero hact.1
  have hval : ∀ r ∈ V, r.p.valid = true := fun r hr => (errT_zero (herr r hr)).1
  refine V_enter (vs := [_]) Try.func35 rfl Try.ntmps35 (Nat.le_of_ble_eq_true rfl) ?_
  repeat (first | refine Vx ?_ | (apply Ops_q; (case hon => exact Va); (case hd => rfl); (case hq => exact YlA)) | refine Vr ?_ | refine Vt ?_ | refine Vf ?_ | refine Vm ?_ | refine Ve ?_ | refine Vo ?_ | refine Vz ?_ | refine Vn ?_)
  (apply Ops_q; (case hon => (exact Va)); (case hd => rfl); (case hq => exact Yl_call rfl (fun w_ e_ => list_v ao L c _ w_ (hL.ext e_) hn hR)))
  repeat (first | refine Vx ?_ | (apply Ops_q; (case hon => exact Va); (case hd => rfl); (case hq => exact YlA)) | refine Vr ?_ | refine Vt ?_ | refine Vf ?_ | refine Vm ?_ | refine Ve ?_ | refine Vo ?_ | refine Vz ?_ | refine Vn ?_)
  (refine Ops_callR (by exact Va) rfl rfl (fun w_ e_ => tree_v 49 (fun r => !isV r) ao' V c' w_ (hV.ext e_) (by omega) hval (fun r w' => wantPlain_v r w')) ?_; intro v w1 w0_ e0_ e1_ r_v; have e_w1 := e0_.trans e1_; have b_v := e0_.size; clear e0_ e1_)
  obtain ⟨tb, N, rfl, hT⟩ := r_v
  repeat (first | refine Vx ?_ | (apply Ops_q; (case hon => exact Va); (case hd => rfl); (case hq => exact YlA)) | refine Vr ?_ | refine Vt ?_ | refine Vf ?_ | refine Vm ?_ | refine Ve ?_ | refine Vo ?_ | refine Vz ?_ | refine Vn ?_)
  refine Ops_makeMap (by exact Va) rfl ?_
  intro w2 b1 e2 g1 hM1
  repeat (first | refine Vx ?_ | (apply Ops_q; (case hon => exact Va); (case hd => rfl); (case hq => exact YlA)) | refine Vr ?_ | refine Vt ?_ | refine Vf ?_ | refine Vm ?_ | refine Ve ?_ | refine Vo ?_ | refine Vz ?_ | refine Vn ?_)
  refine Ops_makeMap (by exact Va) rfl ?_
  intro w3 b2 e3 g2 hM2
  repeat (first | refine Vx ?_ | (apply Ops_q; (case hon => exact Va); (case hd => rfl); (case hq => exact YlA)) | refine Vr ?_ | refine Vt ?_ | refine Vf ?_ | refine Vm ?_ | refine Ve ?_ | refine Vo ?_ | refine Vz ?_ | refine Vn ?_)
  refine Ops_makeMap (by exact Va) rfl ?_
  intro w4 b3 e4 g3 hM3
  have l1 := hM1.lt
  have l2 := hM2.lt
  have l3 := hM3.lt
  have z2 := e2.size
  have z3 := e3.size
  have z4 := e4.size
  repeat (first | refine Vx ?_ | (apply Ops_q; (case hon => exact Va); (case hd => rfl); (case hq => exact YlA)) | refine Vr ?_ | refine Vt ?_ | refine Vf ?_ | refine Vm ?_ | refine Ve ?_ | refine Vo ?_ | refine Vz ?_ | refine Vn ?_)
  (refine Ops_box (by exact Va) rfl rfl rfl ?_; intro w5 b4 n_b4; have k_b4 := n_b4.blk)
  have g4 := n_b4.ge
  have e5 := n_b4.ext
  clear n_b4
  repeat (first | refine Vx ?_ | (apply Ops_q; (case hon => exact Va); (case hd => rfl); (case hq => exact YlA)) | refine Vr ?_ | refine Vt ?_ | refine Vf ?_ | refine Vm ?_ | refine Ve ?_ | refine Vo ?_ | refine Vz ?_ | refine Vn ?_)
  refine ret1 (by first | exact .inl rfl | exact .inr rfl) rfl rfl ?_
  have x5 : Ext w1 w5 := ((e2.trans e3).trans e4).trans e5
  have ss : SvM V cbS ⟨ao', c', tb, N, w0_.heap.size, b4, b1, b2, b3⟩ (fun _ => False) w1 w5 := by
    have h0 : Sv0 V ⟨ao', c', tb, N, w0_.heap.size, b4, b1, b2, b3⟩ w1 := ⟨hV.ext e_w1, hT, actv_dist hact, hval, hlen, fun r hr => (errT_zero (herr r hr)).2⟩
    refine ⟨⟨h0, x5, k_b4, by show w1.heap.size ≤ b4; omega⟩, by show b1 ≠ b2; omega, by show b1 ≠ b3; omega, by show b2 ≠ b3; omega, fun k hk => ?_, fun k hk => hk.elim, ⟨_, ((hM1.ext e3).ext e4).ext e5, fun k v hk => by cases hk⟩, ⟨_, (hM2.ext e4).ext e5, fun k v hk => by cases hk⟩, ⟨_, hM3.ext e5, fun k v hk => by cases hk⟩⟩
    rcases hk with hk | hk | hk <;> simp only at hk <;> subst hk <;> exact ⟨by omega, by show _ ≠ b4; omega⟩
  exact Gives_mk (fun w' he => ⟨_, w1, e_w1, ss.ext he, rfl⟩) (e_w1.trans x5)
end Go.Proofs.Ytkdjbddjblahkaa

/-
  Regions that draw their order, walked along each order that their edges leave: for small regions with calls behind guards.
  No conditions beyond those that each rule states.
-/
namespace Go.Proofs.Ytkdjbddjblahkaa
open Go.RowKit

section
variable {P : Program} {N : Fr} {ops : Array Oper} {Q : Exit → Env → World → Prop} {m : Env} {w : World} {f : Nat} {L : Array Bool}
/-- The rest of a region, when the operations of L are through and f are left. -/
structure Dr (P : Program) (N : Fr) (ops : Array Oper) (Q : Exit → Env → World → Prop) (f : Nat) (L : Array Bool) (m : Env) (w : World) : Prop where
  out : ∀ a w', Agree N m a → Ext w w' → wpAny P .any ops (fun e a w => e = .normal ∧ lift N Q .normal a w) f L a w'
/-- Operation i is next. -/
structure DrOp (P : Program) (N : Fr) (ops : Array Oper) (Q : Exit → Env → World → Prop) (f : Nat) (L : Array Bool) (i : Nat) (m : Env) (w : World) : Prop where
  out : ∀ a w', Agree N m a → Ext w w' → wpOp P ops (fun e a w => e = .normal ∧ lift N Q .normal a w) i (wpAny P .any ops (fun e a w => e = .normal ∧ lift N Q .normal a w) f (L.setIfInBounds i true)) a w'
def DrAll (P : Program) (N : Fr) (ops : Array Oper) (Q : Exit → Env → World → Prop) (f : Nat) (L : Array Bool) (m : Env) (w : World) : List Nat → Prop
  | [] => True
  | i :: r => DrOp P N ops Q f L i m w ∧ DrAll P N ops Q f L m w r
theorem drAll_mem : ∀ {R : List Nat}, DrAll P N ops Q f L m w R → ∀ i ∈ R, DrOp P N ops Q f L i m w
  | [], _, i, hi => by cases hi
  | j :: r, h, i, hi => by
    rcases List.mem_cons.1 hi with rfl | hi
    · exact h.1
    · exact drAll_mem h.2 i hi
theorem V_dr {id : Nat} {l : List Oper} (hm : P.follows .mixedOrders = true) (h : Dr P N l.toArray Q l.length (Array.replicate l.length false) m w)
    (hnd : NoDef N.ro l := by first | exact .inl rfl | exact .inr (by kernel_rfl)) : V P N (.region id l.toArray true) Q m w :=
  ⟨fun a w' ha hw => wpR_mono (Q := fun e a w => e = .normal ∧ lift N Q .normal a w) (fun e a w ⟨h1, h2⟩ => by rw [h1]; exact h2) (wpR_region_any (by simpa using hnd) noLet hm (by simpa using h.out a _ ha hw.draw))⟩
theorem Dr_end (hr : Region.ready .any ops L = []) (h : Q .normal m w) : Dr P N ops Q 0 L m w := ⟨fun _ _ ha hw => ⟨hr, rfl, m, w, h, ha, hw⟩⟩
theorem Dr_step (R : List Nat) (hr : Region.ready .any ops L = R) (hne : R.isEmpty = false) (h : DrAll P N ops Q f L m w R) : Dr P N ops Q (f + 1) L m w := ⟨fun a w' ha hw => by
  refine ⟨fun h0 => ?_, fun i hi => ?_⟩
  · rw [hr] at h0; subst h0; cases hne
  · rw [hr] at hi
    exact (drAll_mem h i hi).out a w' ha hw⟩
theorem Dr_sub {m1 : Env} (hs : Sub m1 m) (h : Dr P N ops Q f L m1 w) : Dr P N ops Q f L m w := ⟨fun a w' ha hw => h.out a w' (ha.sub hs) hw⟩
theorem DrOp_q {i dst : Nat} {op : Op} {ty : TypeId} {pos : String} {after : Array Edge} {g : Option (Nat × Bool)} {v : Value} (hi : ops[i]? = some ⟨some dst, op, ty, pos, after, g⟩)
    (hon : On N ops m ⟨some dst, op, ty, pos, after, g⟩) (hd : Nat.ble (dst + 1) N.n = true) (hq : Yl P N m w ⟨some dst, op, ty, pos, after, g⟩ v) (h : Dr P N ops Q f (L.setIfInBounds i true) ((dst, v) :: m) w) : DrOp P N ops Q f L i m w := ⟨fun a w' ha hw => by
  unfold wpOp
  simp only [hi]
  rw [if_pos (hon.out a ha)]
  exact .inl (Oper.wp_of_quiet (C := Ext w) (K := fun a1 => Agree N ((dst, v) :: m) a1) hw (fun a1 w1 hw1 ha1 => h.out a1 w1 ha1 hw1) ⟨v, fun w1 hw1 => quietAt_mono (fun _ h3 => hw1.trans h3) (hq.out a w1 ha hw1), ha.put (Nat.le_of_ble_eq_true hd) v⟩)⟩
theorem DrOp_off {i dst : Nat} {op : Op} {ty : TypeId} {pos : String} {after : Array Edge} {g : Option (Nat × Bool)} (hi : ops[i]? = some ⟨some dst, op, ty, pos, after, g⟩)
    (hoff : Off N ops m ⟨some dst, op, ty, pos, after, g⟩) (hd : Nat.ble (dst + 1) N.n = true) (h : Dr P N ops Q f (L.setIfInBounds i true) ((dst, .tuple #[]) :: m) w) : DrOp P N ops Q f L i m w := ⟨fun a w' ha hw => by
  unfold wpOp
  simp only [hi]
  rw [if_neg (by rw [hoff.out a ha]; exact Bool.false_ne_true)]
  exact h.out _ _ (ha.put (Nat.le_of_ble_eq_true hd) _) hw⟩
/-- A call whose result lies in new memory. -/
theorem DrOp_callR {i dst : Nat} {f' : FuncId} {xs : Array Operand} {ats : Array TypeId} {ty : TypeId} {pos : String} {after : Array Edge} {g : Option (Nat × Bool)} {vs : List Value} {R : World → Value → World → Prop} [hf : TFun P f'] (hi : ops[i]? = some ⟨some dst, .call { callee := .value (.func f'), args := xs, argTypes := ats }, ty, pos, after, g⟩)
    (hon : On N ops m ⟨some dst, .call { callee := .value (.func f'), args := xs, argTypes := ats }, ty, pos, after, g⟩) (hd : Nat.ble (dst + 1) N.n = true) (hx : evs m xs.toList = some vs)
    (hc : ∀ w', Ext w w' → Calls P f' vs.toArray w' (Gives (R w') w'))
    (h : ∀ v w1 w0, Ext w w0 → Ext w0 w1 → R w0 v w1 → Dr P N ops Q f (L.setIfInBounds i true) ((dst, v) :: m) w1) : DrOp P N ops Q f L i m w := ⟨fun a w' ha hw => by
  unfold wpOp
  simp only [hi]
  rw [if_pos (hon.out a ha)]
  refine .inl ?_
  have e1 : xs.map a.eval = vs.toArray := map_evs ha hx
  have hr : (execOp a.eval ⟨some dst, .call { callee := .value (.func f'), args := xs, argTypes := ats }, ty, pos, after, g⟩).run P w' = .ok (.enter f' vs.toArray) w' := by
    rw [execOp_call_go, e1]
    simpa using hf.h vs.toArray w'
  unfold Oper.wp
  rw [hr]
  refine Calls.mono (hc w' hw) fun e w2 hg => ?_
  obtain ⟨v, rfl, he, hR⟩ := hg
  exact (h v w2 w' hw he hR).out _ _ (ha.put (Nat.le_of_ble_eq_true hd) v) (Ext.refl _)⟩
end
end Go.Proofs.Ytkdjbddjblahkaa

/-
  Routes (layer 49): Hops.
  Conditions: addresses and routers are numbers of 32 bits; lists are not too long.
-/
namespace Go.Proofs.Ytkdjbddjblahkaa
open Go.RowKit

section
variable {P : Program} {N : Fr} {ops : Array Oper} {Q : Exit → Env → World → Prop} {m : Env} {w : World} {f : Nat} {L : Array Bool}
/-- A call that changes the blocks of S. -/
theorem DrOp_callM {i dst : Nat} {f' : FuncId} {xs : Array Operand} {ats : Array TypeId} {ty : TypeId} {pos : String} {after : Array Edge} {g : Option (Nat × Bool)} {vs : List Value} {S : Nat → Prop} {R : World → Value → World → Prop} [hf : TFun P f'] (hi : ops[i]? = some ⟨some dst, .call { callee := .value (.func f'), args := xs, argTypes := ats }, ty, pos, after, g⟩)
    (hon : On N ops m ⟨some dst, .call { callee := .value (.func f'), args := xs, argTypes := ats }, ty, pos, after, g⟩) (hd : Nat.ble (dst + 1) N.n = true) (hx : evs m xs.toList = some vs)
    (hc : ∀ w', Ext w w' → Calls P f' vs.toArray w' (Does S (R w') w'))
    (h : ∀ v w1 w0, Ext w w0 → Mod S w0 w1 → R w0 v w1 → Dr P N ops Q f (L.setIfInBounds i true) ((dst, v) :: m) w1) : DrOp P N ops Q f L i m w := ⟨fun a w' ha hw => by
  unfold wpOp
  simp only [hi]
  rw [if_pos (hon.out a ha)]
  refine .inl ?_
  have e1 : xs.map a.eval = vs.toArray := map_evs ha hx
  have hr : (execOp a.eval ⟨some dst, .call { callee := .value (.func f'), args := xs, argTypes := ats }, ty, pos, after, g⟩).run P w' = .ok (.enter f' vs.toArray) w' := by
    rw [execOp_call_go, e1]
    simpa using hf.h vs.toArray w'
  unfold Oper.wp
  rw [hr]
  refine Calls.mono (hc w' hw) fun e w2 hg => ?_
  obtain ⟨v, rfl, he, hR⟩ := hg
  exact (h v w2 w' hw he hR).out _ _ (ha.put (Nat.le_of_ble_eq_true hd) v) (Ext.refl _)⟩
end
/-- What Hops returns: the hops and the error. -/
noncomputable def hopsV (L : List Rt) (r : Rt) : Int × List Nh := if chkR [r] ≠ 0 then (chkR [r], []) else rou cbS (actL L) r
def HopsR (o : Int × List Nh) (v : Value) (w' : World) : Prop := ∃ ao c, v = .tuple #[.slice ao o.2.length c, .int .i64 o.1] ∧ Nhs w' ao o.2 ∧ o.2.length ≤ c ∧ (ao = none → c = 0)
theorem HopsR.ext {o : Int × List Nh} {v : Value} {w w' : World} (h : HopsR o v w) (he : Ext w w') : HopsR o v w' := by
  obtain ⟨ao, c, h1, h2, h3, h4⟩ := h
  exact ⟨ao, c, h1, h2.ext he, h3, h4⟩
set_option maxHeartbeats 1000000 in
theorem hops_v (ao : Option Addr) (L : List Rt) (c : Nat) (r : Rt) (w : World) (hL : Rts w ao L) (hn : L.length ≤ 1000000000) (hr : RtM w r) :
    Calls Try.prog 16 #[.slice ao L.length c, r.val] w (Gives (HopsR (hopsV L r)) w) := by
  refine V_enter (vs := [_, _]) Try.func16 rfl Try.ntmps16 (Nat.le_of_ble_eq_true rfl) ?_
  repeat (first | refine Vx ?_ | (apply Ops_q; (case hon => exact Va); (case hd => rfl); (case hq => exact YlA)) | refine Vr ?_ | refine Vt ?_ | refine Vf ?_ | refine Vm ?_ | refine Ve ?_ | refine Vo ?_ | refine Vz ?_ | refine Vn ?_)
  (refine Ops_box (by exact Va) rfl rfl rfl ?_; intro w1 b3 n_b3; have k_b3 := n_b3.blk)
  have x1 := n_b3.ext
  clear n_b3
  repeat (first | refine Vx ?_ | (apply Ops_q; (case hon => exact Va); (case hd => rfl); (case hq => exact YlA)) | refine Vr ?_ | refine Vt ?_ | refine Vf ?_ | refine Vm ?_ | refine Ve ?_ | refine Vo ?_ | refine Vz ?_ | refine Vn ?_)
  (refine Ops_lit (by exact Va) rfl rfl rfl ?_; intro w2 bl n_bl; have k_bl := n_bl.blk)
  have x2 := x1.trans n_bl.ext
  have k32 := k_b3.ext n_bl.ext
  have hone : Rts w2 (some ⟨bl, 0, none⟩) [r] := ⟨arr_one k_bl, fun x hx => by simp at hx; subst hx; exact hr.ext x2⟩
  clear n_bl k_b3
  repeat (first | refine Vx ?_ | (apply Ops_q; (case hon => exact Va); (case hd => rfl); (case hq => exact YlA)) | refine Vr ?_ | refine Vt ?_ | refine Vf ?_ | refine Vm ?_ | refine Ve ?_ | refine Vo ?_ | refine Vz ?_ | refine Vn ?_)
  (apply Ops_q; (case hon => (exact Va)); (case hd => rfl); (case hq => exact Yl_call rfl (fun w_ e_ => checkRib_v (some ⟨bl, 0, none⟩) [r] 1 w_ (hone.ext e_) (show 1 ≤ 1000000000 by decide))))
  repeat (first | refine Vx ?_ | (apply Ops_q; (case hon => exact Va); (case hd => rfl); (case hq => exact YlA)) | refine Vr ?_ | refine Vt ?_ | refine Vf ?_ | refine Vm ?_ | refine Ve ?_ | refine Vo ?_ | refine Vz ?_ | refine Vn ?_)
  by_cases t1 : chkR [r] = 0
  · have d1 : (!decide (chkR [r] = 0)) = false := by rw [decide_eq_true t1]; rfl
    refine V_no rfl d1 ?_
    have hv : hopsV L r = rou cbS (actL L) r := if_neg (fun h => h t1)
    obtain ⟨_, hlr, hbr⟩ := errT_zero ((chkR_zero t1).2.1 r (List.mem_singleton.2 rfl))
    repeat (first | refine Vx ?_ | (apply Ops_q; (case hon => exact Va); (case hd => rfl); (case hq => exact YlA)) | refine Vt ?_ | refine Vf ?_ | refine Vm ?_ | refine Ve ?_ | refine Vo ?_ | refine Vz ?_ | refine Vn ?_)
    refine V_dr (by kernel_rfl) ?_
    refine Dr_step [0, 2] (by kernel_rfl) rfl ⟨?_, ?_, trivial⟩
    · (apply DrOp_q; (case hi => rfl); (case hon => exact Va); (case hd => rfl); (case hq => exact YlA))
      refine Dr_step [1, 2] (by kernel_rfl) rfl ⟨?_, ?_, trivial⟩
      · refine DrOp_callR (R := fun _ u w' => NewR (actL L) w2 u w') rfl Va rfl rfl (fun w_ e_ => (newSolver_v ao L c w_ (hL.ext (x2.trans e_)) hn).mono fun e w' ⟨u, q1, q2, s, w0, q3, q4, q5⟩ => ⟨u, q1, q2, s, w0, e_.trans q3, q4, q5⟩) ?_
        rintro _ w3 w3' e3 e3' ⟨s, w0, q1, hs, rfl⟩
        have x3 := e3.trans e3'
        have k33 := k32.ext x3
        refine Dr_step [2] (by kernel_rfl) rfl ⟨?_, trivial⟩
        (apply DrOp_q; (case hi => rfl); (case hon => exact Va); (case hd => rfl); (case hq => exact YlA))
        refine Dr_step [3] (by kernel_rfl) rfl ⟨?_, trivial⟩
        refine DrOp_callM (S := SvB s) (R := fun w_ => OutR (actL L) cbS s (fun _ => False) w0 (rou cbS (actL L) r) w_) rfl Va rfl rfl (fun w_ e_ => routeT_v r w_ (hs.ext e_) (fun _ h => h.elim) (hr.ext (x2.trans q1)) hlr (fun x hx => badH_good (hr.ok x hx) (hbr x hx))) ?_
        rintro u w5 w4 e4 m5 ⟨h5, ao', c', rfl, hN, hlc, hnc, _⟩
        have x5 : Ext w w5 := m5.ext_of ((x2.trans x3).trans e4) (fun k hk => Nat.le_trans (x2.trans q1).size (hs.gm k hk).1)
        refine Dr_step [4, 5] (by kernel_rfl) rfl ⟨?_, ?_, trivial⟩
        · (apply DrOp_q; (case hi => rfl); (case hon => exact Va); (case hd => rfl); (case hq => exact YlA))
          refine Dr_step [5] (by kernel_rfl) rfl ⟨?_, trivial⟩
          (apply DrOp_q; (case hi => rfl); (case hon => exact Va); (case hd => rfl); (case hq => exact YlA))
          refine Dr_step [6] (by kernel_rfl) rfl ⟨?_, trivial⟩
          (apply DrOp_q; (case hi => rfl); (case hon => exact Va); (case hd => rfl); (case hq => exact YlA))
          refine Dr_step [7] (by kernel_rfl) rfl ⟨?_, trivial⟩
          (apply DrOp_q; (case hi => rfl); (case hon => exact Va); (case hd => rfl); (case hq => exact YlA))
          refine Dr_end (by kernel_rfl) ?_
          repeat (first | refine Vx ?_ | (apply Ops_q; (case hon => exact Va); (case hd => rfl); (case hq => exact YlA)) | refine Vr ?_ | refine Vt ?_ | refine Vf ?_ | refine Vm ?_ | refine Ve ?_ | refine Vo ?_ | refine Vz ?_ | refine Vn ?_)
          refine ret2 (by first | exact .inl rfl | exact .inr rfl) rfl rfl rfl ?_
          refine Gives_mk (fun w' he => ?_) x5
          rw [hv]
          exact ⟨ao', c', rfl, hN.ext he, hlc, hnc⟩
        · (apply DrOp_q; (case hi => rfl); (case hon => exact Va); (case hd => rfl); (case hq => exact YlA))
          refine Dr_step [4] (by kernel_rfl) rfl ⟨?_, trivial⟩
          (apply DrOp_q; (case hi => rfl); (case hon => exact Va); (case hd => rfl); (case hq => exact YlA))
          refine Dr_step [6] (by kernel_rfl) rfl ⟨?_, trivial⟩
          (apply DrOp_q; (case hi => rfl); (case hon => exact Va); (case hd => rfl); (case hq => exact YlA))
          refine Dr_step [7] (by kernel_rfl) rfl ⟨?_, trivial⟩
          (apply DrOp_q; (case hi => rfl); (case hon => exact Va); (case hd => rfl); (case hq => exact YlA))
          refine Dr_end (by kernel_rfl) ?_
          repeat (first | refine Vx ?_ | (apply Ops_q; (case hon => exact Va); (case hd => rfl); (case hq => exact YlA)) | refine Vr ?_ | refine Vt ?_ | refine Vf ?_ | refine Vm ?_ | refine Ve ?_ | refine Vo ?_ | refine Vz ?_ | refine Vn ?_)
          refine ret2 (by first | exact .inl rfl | exact .inr rfl) rfl rfl rfl ?_
          refine Gives_mk (fun w' he => ?_) x5
          rw [hv]
          exact ⟨ao', c', rfl, hN.ext he, hlc, hnc⟩
      · (apply DrOp_q; (case hi => rfl); (case hon => exact Va); (case hd => rfl); (case hq => exact YlA))
        refine Dr_step [1] (by kernel_rfl) rfl ⟨?_, trivial⟩
        refine DrOp_callR (R := fun _ u w' => NewR (actL L) w2 u w') rfl Va rfl rfl (fun w_ e_ => (newSolver_v ao L c w_ (hL.ext (x2.trans e_)) hn).mono fun e w' ⟨u, q1, q2, s, w0, q3, q4, q5⟩ => ⟨u, q1, q2, s, w0, e_.trans q3, q4, q5⟩) ?_
        rintro _ w3 w3' e3 e3' ⟨s, w0, q1, hs, rfl⟩
        have x3 := e3.trans e3'
        have k33 := k32.ext x3
        refine Dr_step [3] (by kernel_rfl) rfl ⟨?_, trivial⟩
        refine DrOp_callM (S := SvB s) (R := fun w_ => OutR (actL L) cbS s (fun _ => False) w0 (rou cbS (actL L) r) w_) rfl Va rfl rfl (fun w_ e_ => routeT_v r w_ (hs.ext e_) (fun _ h => h.elim) (hr.ext (x2.trans q1)) hlr (fun x hx => badH_good (hr.ok x hx) (hbr x hx))) ?_
        rintro u w5 w4 e4 m5 ⟨h5, ao', c', rfl, hN, hlc, hnc, _⟩
        have x5 : Ext w w5 := m5.ext_of ((x2.trans x3).trans e4) (fun k hk => Nat.le_trans (x2.trans q1).size (hs.gm k hk).1)
        refine Dr_step [4, 5] (by kernel_rfl) rfl ⟨?_, ?_, trivial⟩
        · (apply DrOp_q; (case hi => rfl); (case hon => exact Va); (case hd => rfl); (case hq => exact YlA))
          refine Dr_step [5] (by kernel_rfl) rfl ⟨?_, trivial⟩
          (apply DrOp_q; (case hi => rfl); (case hon => exact Va); (case hd => rfl); (case hq => exact YlA))
          refine Dr_step [6] (by kernel_rfl) rfl ⟨?_, trivial⟩
          (apply DrOp_q; (case hi => rfl); (case hon => exact Va); (case hd => rfl); (case hq => exact YlA))
          refine Dr_step [7] (by kernel_rfl) rfl ⟨?_, trivial⟩
          (apply DrOp_q; (case hi => rfl); (case hon => exact Va); (case hd => rfl); (case hq => exact YlA))
          refine Dr_end (by kernel_rfl) ?_
          repeat (first | refine Vx ?_ | (apply Ops_q; (case hon => exact Va); (case hd => rfl); (case hq => exact YlA)) | refine Vr ?_ | refine Vt ?_ | refine Vf ?_ | refine Vm ?_ | refine Ve ?_ | refine Vo ?_ | refine Vz ?_ | refine Vn ?_)
          refine ret2 (by first | exact .inl rfl | exact .inr rfl) rfl rfl rfl ?_
          refine Gives_mk (fun w' he => ?_) x5
          rw [hv]
          exact ⟨ao', c', rfl, hN.ext he, hlc, hnc⟩
        · (apply DrOp_q; (case hi => rfl); (case hon => exact Va); (case hd => rfl); (case hq => exact YlA))
          refine Dr_step [4] (by kernel_rfl) rfl ⟨?_, trivial⟩
          (apply DrOp_q; (case hi => rfl); (case hon => exact Va); (case hd => rfl); (case hq => exact YlA))
          refine Dr_step [6] (by kernel_rfl) rfl ⟨?_, trivial⟩
          (apply DrOp_q; (case hi => rfl); (case hon => exact Va); (case hd => rfl); (case hq => exact YlA))
          refine Dr_step [7] (by kernel_rfl) rfl ⟨?_, trivial⟩
          (apply DrOp_q; (case hi => rfl); (case hon => exact Va); (case hd => rfl); (case hq => exact YlA))
          refine Dr_end (by kernel_rfl) ?_
          repeat (first | refine Vx ?_ | (apply Ops_q; (case hon => exact Va); (case hd => rfl); (case hq => exact YlA)) | refine Vr ?_ | refine Vt ?_ | refine Vf ?_ | refine Vm ?_ | refine Ve ?_ | refine Vo ?_ | refine Vz ?_ | refine Vn ?_)
          refine ret2 (by first | exact .inl rfl | exact .inr rfl) rfl rfl rfl ?_
          refine Gives_mk (fun w' he => ?_) x5
          rw [hv]
          exact ⟨ao', c', rfl, hN.ext he, hlc, hnc⟩
    · (apply DrOp_q; (case hi => rfl); (case hon => exact Va); (case hd => rfl); (case hq => exact YlA))
      refine Dr_step [0] (by kernel_rfl) rfl ⟨?_, trivial⟩
      (apply DrOp_q; (case hi => rfl); (case hon => exact Va); (case hd => rfl); (case hq => exact YlA))
      refine Dr_step [1] (by kernel_rfl) rfl ⟨?_, trivial⟩
      refine DrOp_callR (R := fun _ u w' => NewR (actL L) w2 u w') rfl Va rfl rfl (fun w_ e_ => (newSolver_v ao L c w_ (hL.ext (x2.trans e_)) hn).mono fun e w' ⟨u, q1, q2, s, w0, q3, q4, q5⟩ => ⟨u, q1, q2, s, w0, e_.trans q3, q4, q5⟩) ?_
      rintro _ w3 w3' e3 e3' ⟨s, w0, q1, hs, rfl⟩
      have x3 := e3.trans e3'
      have k33 := k32.ext x3
      refine Dr_step [3] (by kernel_rfl) rfl ⟨?_, trivial⟩
      refine DrOp_callM (S := SvB s) (R := fun w_ => OutR (actL L) cbS s (fun _ => False) w0 (rou cbS (actL L) r) w_) rfl Va rfl rfl (fun w_ e_ => routeT_v r w_ (hs.ext e_) (fun _ h => h.elim) (hr.ext (x2.trans q1)) hlr (fun x hx => badH_good (hr.ok x hx) (hbr x hx))) ?_
      rintro u w5 w4 e4 m5 ⟨h5, ao', c', rfl, hN, hlc, hnc, _⟩
      have x5 : Ext w w5 := m5.ext_of ((x2.trans x3).trans e4) (fun k hk => Nat.le_trans (x2.trans q1).size (hs.gm k hk).1)
      refine Dr_step [4, 5] (by kernel_rfl) rfl ⟨?_, ?_, trivial⟩
      · (apply DrOp_q; (case hi => rfl); (case hon => exact Va); (case hd => rfl); (case hq => exact YlA))
        refine Dr_step [5] (by kernel_rfl) rfl ⟨?_, trivial⟩
        (apply DrOp_q; (case hi => rfl); (case hon => exact Va); (case hd => rfl); (case hq => exact YlA))
        refine Dr_step [6] (by kernel_rfl) rfl ⟨?_, trivial⟩
        (apply DrOp_q; (case hi => rfl); (case hon => exact Va); (case hd => rfl); (case hq => exact YlA))
        refine Dr_step [7] (by kernel_rfl) rfl ⟨?_, trivial⟩
        (apply DrOp_q; (case hi => rfl); (case hon => exact Va); (case hd => rfl); (case hq => exact YlA))
        refine Dr_end (by kernel_rfl) ?_
        repeat (first | refine Vx ?_ | (apply Ops_q; (case hon => exact Va); (case hd => rfl); (case hq => exact YlA)) | refine Vr ?_ | refine Vt ?_ | refine Vf ?_ | refine Vm ?_ | refine Ve ?_ | refine Vo ?_ | refine Vz ?_ | refine Vn ?_)
        refine ret2 (by first | exact .inl rfl | exact .inr rfl) rfl rfl rfl ?_
        refine Gives_mk (fun w' he => ?_) x5
        rw [hv]
        exact ⟨ao', c', rfl, hN.ext he, hlc, hnc⟩
      · (apply DrOp_q; (case hi => rfl); (case hon => exact Va); (case hd => rfl); (case hq => exact YlA))
        refine Dr_step [4] (by kernel_rfl) rfl ⟨?_, trivial⟩
        (apply DrOp_q; (case hi => rfl); (case hon => exact Va); (case hd => rfl); (case hq => exact YlA))
        refine Dr_step [6] (by kernel_rfl) rfl ⟨?_, trivial⟩
        (apply DrOp_q; (case hi => rfl); (case hon => exact Va); (case hd => rfl); (case hq => exact YlA))
        refine Dr_step [7] (by kernel_rfl) rfl ⟨?_, trivial⟩
        (apply DrOp_q; (case hi => rfl); (case hon => exact Va); (case hd => rfl); (case hq => exact YlA))
        refine Dr_end (by kernel_rfl) ?_
        repeat (first | refine Vx ?_ | (apply Ops_q; (case hon => exact Va); (case hd => rfl); (case hq => exact YlA)) | refine Vr ?_ | refine Vt ?_ | refine Vf ?_ | refine Vm ?_ | refine Ve ?_ | refine Vo ?_ | refine Vz ?_ | refine Vn ?_)
        refine ret2 (by first | exact .inl rfl | exact .inr rfl) rfl rfl rfl ?_
        refine Gives_mk (fun w' he => ?_) x5
        rw [hv]
        exact ⟨ao', c', rfl, hN.ext he, hlc, hnc⟩
  · have d1 : (!decide (chkR [r] = 0)) = true := by rw [decide_eq_false t1]; rfl
    refine V_yes rfl d1 ?_
    repeat (first | refine Vx ?_ | (apply Ops_q; (case hon => exact Va); (case hd => rfl); (case hq => exact YlA)) | refine Vr ?_ | refine Vt ?_ | refine Vf ?_ | refine Vm ?_ | refine Ve ?_ | refine Vo ?_ | refine Vz ?_ | refine Vn ?_)
    refine ret2 (by first | exact .inl rfl | exact .inr rfl) rfl rfl rfl ?_
    refine Gives_mk (fun w' he => ?_) x2
    rw [show hopsV L r = (chkR [r], []) from if_pos t1]
    exact ⟨none, 0, rfl, Arr.nil, Nat.le_refl _, fun _ => rfl⟩
end Go.Proofs.Ytkdjbddjblahkaa

/-
  Routes (layer 49): Cost.
  Conditions: addresses and routers are numbers of 32 bits; lists are not too long.
-/
namespace Go.Proofs.Ytkdjbddjblahkaa
open Go.RowKit

/-- What Cost returns. -/
noncomputable def costV (L : List Rt) (a : Nat) : Int × Bool := match (lg (fun r => !isV r) a (actL L)).bind fun i => (actL L)[i]? with
  | some r => if r.hops = [] then (0, false) else if (rou cbS (actL L) r).1 ≠ 0 then (0, false) else (r.metric, true)
  | none => (0, false)
set_option maxHeartbeats 1000000 in
theorem cost_v (ao : Option Addr) (L : List Rt) (c a : Nat) (w : World) (hL : Rts w ao L) (hn : L.length ≤ 1000000000) (ha : a < 4294967296) :
    Calls Try.prog 13 #[.slice ao L.length c, .int .u32 a] w (Ret (.tuple #[.int .i64 (costV L a).1, .bool (costV L a).2]) w) := by
  refine V_enter (vs := [_, _]) Try.func13 rfl Try.ntmps13 (Nat.le_of_ble_eq_true rfl) ?_
  repeat (first | refine Vx ?_ | (apply Ops_q; (case hon => exact Va); (case hd => rfl); (case hq => exact YlA)) | refine Vr ?_ | refine Vt ?_ | refine Vf ?_ | refine Vm ?_ | refine Ve ?_ | refine Vo ?_ | refine Vz ?_ | refine Vn ?_)
  (refine Ops_callR (by exact Va) rfl rfl (fun w_ e_ => newSolver_v ao L c w_ (hL.ext e_) hn) ?_; intro v w1 w0_ e0_ e1_ r_v; have e_w1 := e0_.trans e1_; have b_v := e0_.size; clear e0_ e1_)
  obtain ⟨s, w0, q1, hs, rfl⟩ := r_v
  unfold costV
  generalize actL L = V at *
  have kb := hs.r.blk
  unfold Sv.cells at kb
  repeat (first | refine Vx ?_ | (apply Ops_q; (case hon => exact Va); (case hd => rfl); (case hq => exact YlA)) | refine Vr ?_ | refine Vt ?_ | refine Vf ?_ | refine Vm ?_ | refine Ve ?_ | refine Vo ?_ | refine Vz ?_ | refine Vn ?_)
  (apply Ops_q; (case hon => (exact Va)); (case hd => rfl); (case hq => exact Yl_call rfl (fun w_ e_ => longest_v a w_ ((hs.r.s0.tri.ext hs.r.ext).ext e_) ha)))
  rw [lookV_lg hs.r.s0.dist hs.r.s0.val]
  repeat (first | refine Vx ?_ | (apply Ops_q; (case hon => exact Va); (case hd => rfl); (case hq => exact YlA)) | refine Vr ?_ | refine Vt ?_ | refine Vf ?_ | refine Vm ?_ | refine Ve ?_ | refine Vo ?_ | refine Vz ?_ | refine Vn ?_)
  cases hl : lg (fun r => !isV r) a V with
  | none =>
    repeat (first | refine Vx ?_ | (apply Ops_q; (case hon => exact Va); (case hd => rfl); (case hq => exact YlA)) | refine Vr ?_ | refine Vt ?_ | refine Vf ?_ | refine Vm ?_ | refine Ve ?_ | refine Vo ?_ | refine Vz ?_ | refine Vn ?_)
    refine ret2 (by first | exact .inl rfl | exact .inr rfl) rfl rfl rfl ?_
    exact Ret_mk rfl e_w1
  | some i =>
    obtain ⟨hil, r, hr, _⟩ := lg_in hl
    simp only [Option.bind_some, hr]
    have hm : r ∈ V := List.mem_of_getElem? hr
    obtain ⟨ad, ea, hc⟩ := hs.r.rts.at hr
    rw [ea] at kb
    have q5 := hc 6 _ rfl
    have d1 : decide (((i : Nat) : Int) < 0) = false := decide_eq_false (by omega)
    unfold numI
    refine Ops_know rfl rfl d1 ?_
    clear hc
    repeat (first | refine Vx ?_ | (apply Ops_q; (case hon => exact Va); (case hd => rfl); (case hq => exact YlA)) | refine Vr ?_ | refine Vt ?_ | refine Vf ?_ | refine Vm ?_ | refine Ve ?_ | refine Vo ?_ | refine Vz ?_ | refine Vn ?_)
    (apply Ops_q; (case hon => (exact Va)); (case hd => rfl); (case hq => exact Yl_indexS (j := i) rfl rfl (by omega)))
    repeat (first | refine Vx ?_ | (apply Ops_q; (case hon => exact Va); (case hd => rfl); (case hq => exact YlA)) | refine Vr ?_ | refine Vt ?_ | refine Vf ?_ | refine Vm ?_ | refine Ve ?_ | refine Vo ?_ | refine Vz ?_ | refine Vn ?_)
    have hrm := hs.r.s0.rts.mem r hm
    by_cases t2 : r.hops = []
    · have d2 : decide ((r.hops.length : Int) = 0) = true := decide_eq_true (by rw [t2]; rfl)
      refine V_yes rfl d2 ?_
      repeat (first | refine Vx ?_ | (apply Ops_q; (case hon => exact Va); (case hd => rfl); (case hq => exact YlA)) | refine Vr ?_ | refine Vt ?_ | refine Vf ?_ | refine Vm ?_ | refine Ve ?_ | refine Vo ?_ | refine Vz ?_ | refine Vn ?_)
      refine ret2 (by first | exact .inl rfl | exact .inr rfl) rfl rfl rfl ?_
      exact Ret_mk (by rw [if_pos t2]) e_w1
    · have hpos : 0 < r.hops.length := List.length_pos_iff.2 t2
      have d2 : decide ((r.hops.length : Int) = 0) = false := decide_eq_false (by omega)
      refine V_no rfl d2 ?_
      clear q5
      obtain ⟨ad', ea', hc⟩ := hs.r.rts.at hr
      rw [ea] at ea'
      cases ea'
      repeat (first | refine Vx ?_ | (apply Ops_q; (case hon => exact Va); (case hd => rfl); (case hq => exact YlA)) | refine Vr ?_ | refine Vt ?_ | refine Vf ?_ | refine Vm ?_ | refine Ve ?_ | refine Vo ?_ | refine Vz ?_ | refine Vn ?_)
      (apply Ops_q; (case hon => (exact Va)); (case hd => rfl); (case hq => exact Yl_indexS (j := i) rfl rfl (by omega)))
      repeat (first | refine Vx ?_ | (apply Ops_q; (case hon => exact Va); (case hd => rfl); (case hq => exact YlA)) | refine Vr ?_ | refine Vt ?_ | refine Vf ?_ | refine Vm ?_ | refine Ve ?_ | refine Vo ?_ | refine Vz ?_ | refine Vn ?_)
      refine Ops_callM (S := SvB s) (R := fun w_ => OutR V cbS s (fun _ => False) w0 (rou cbS V r) w_) (by exact Va) rfl rfl (fun w_ e_ => routeT_v r w_ (hs.ext e_) (fun _ h => h.elim) hrm (hs.r.s0.hops r hm).1 (hs.r.s0.good r hm).2) ?_
      rintro u w3 w2 e2 m3 ⟨h3, ao', c', rfl, _⟩
      have x3 : Ext w w3 := m3.ext_of (e_w1.trans e2) (fun k hk => Nat.le_trans (Nat.le_trans b_v q1.size) (hs.gm k hk).1)
      have kb3 := h3.r.blk
      unfold Sv.cells at kb3
      rw [ea] at kb3
      obtain ⟨ad', ea', hc3⟩ := h3.r.rts.at hr
      rw [ea] at ea'
      cases ea'
      have q3 := hc3 4 _ rfl
      clear hc hc3
      repeat (first | refine Vx ?_ | (apply Ops_q; (case hon => exact Va); (case hd => rfl); (case hq => exact YlA)) | refine Vr ?_ | refine Vt ?_ | refine Vf ?_ | refine Vm ?_ | refine Ve ?_ | refine Vo ?_ | refine Vz ?_ | refine Vn ?_)
      by_cases t3 : (rou cbS V r).1 = 0
      · have d3 : (!decide ((rou cbS V r).1 = 0)) = false := by rw [decide_eq_true t3]; rfl
        refine V_no rfl d3 ?_
        repeat (first | refine Vx ?_ | (apply Ops_q; (case hon => exact Va); (case hd => rfl); (case hq => exact YlA)) | refine Vr ?_ | refine Vt ?_ | refine Vf ?_ | refine Vm ?_ | refine Ve ?_ | refine Vo ?_ | refine Vz ?_ | refine Vn ?_)
        (apply Ops_q; (case hon => (exact Va)); (case hd => rfl); (case hq => exact Yl_indexS (j := i) rfl rfl (by omega)))
        repeat (first | refine Vx ?_ | (apply Ops_q; (case hon => exact Va); (case hd => rfl); (case hq => exact YlA)) | refine Vr ?_ | refine Vt ?_ | refine Vf ?_ | refine Vm ?_ | refine Ve ?_ | refine Vo ?_ | refine Vz ?_ | refine Vn ?_)
        refine ret2 (by first | exact .inl rfl | exact .inr rfl) rfl rfl rfl ?_
        exact Ret_mk (by rw [if_neg t2, if_neg (fun h => h t3)]) x3
      · have d3 : (!decide ((rou cbS V r).1 = 0)) = true := by rw [decide_eq_false t3]; rfl
        refine V_yes rfl d3 ?_
        repeat (first | refine Vx ?_ | (apply Ops_q; (case hon => exact Va); (case hd => rfl); (case hq => exact YlA)) | refine Vr ?_ | refine Vt ?_ | refine Vf ?_ | refine Vm ?_ | refine Ve ?_ | refine Vo ?_ | refine Vz ?_ | refine Vn ?_)
        refine ret2 (by first | exact .inl rfl | exact .inr rfl) rfl rfl rfl ?_
        exact Ret_mk (by rw [if_neg t2, if_pos t3]) x3
end Go.Proofs.Ytkdjbddjblahkaa

/-
  Routes (layer 49): the reference's Hops, Find and Cost; the program's Find.
  Conditions: addresses and routers are numbers of 32 bits; lists are not too long.
-/
namespace Go.Proofs.Ytkdjbddjblahkaa
open Go.RowKit

section
variable {P : Program} {N : Fr} {m : Env} {w : World} {ty : TypeId} {pos : String} {after : Array Edge} {g : Option (Nat × Bool)} {dst : Option Tmp}
theorem Yl_eqnilR {t t' e : TypeId} {x y : Operand} {ao : Option Addr} {n c : Nat} [hu : TSlice P t e] (hx : ev m x = some (.slice ao n c)) (hy : ev m y = some (.slice none 0 0)) :
    Yl P N m w ⟨dst, .binOp .eql t x y t', ty, pos, after, g⟩ (.bool ao.isNone) :=
  Yl_of_run fun ac w' ha _ => by
    have h : ∀ d : Nat, (Op.equalIn (d + 1) t (.slice ao n c) (.slice none 0 0)).run P w' = .ok ao.isNone w' := fun d => by cases ao <;> simp [Op.equalIn, run_underlying hu.h]
    have h2 : (Op.equal t (.slice ao n c) (.slice none 0 0)).run P w' = .ok ao.isNone w' := h 9999
    simp [execOp, ha.ev hx, ha.ev hy, binOp, eqGuard, h2]
end
/-- The active list in memory. -/
theorem act_vl {w : World} {ao : Option Addr} {L : List Rt} (c : Nat) (hL : Rts w ao L) : ∃ ao' c', ActR ao L c (.slice ao' (actL L).length c') ∧ VL w ao' (actL L) := by
  obtain ⟨ao', c', h1, h2⟩ := act_mem c hL
  have hact := actL_actv L
  obtain ⟨h3, h4, _⟩ := chkR_zero hact.1
  exact ⟨ao', c', h1, h2, actv_dist hact, h3, fun r hr => (errT_zero (h4 r hr)).2⟩
/-- One route alone. -/
theorem chkR_one (r : Rt) : chkR [r] = errT r := by
  have h0 : errC [r] 0 = errT r := by
    by_cases h : errT r = 0
    · rw [errC_zero (r := r) rfl h rfl rfl, h]
    · exact errC_t rfl h
  unfold chkR
  rw [if_neg (by simp)]
  show firstE (errC [r]) (0 + 1) = errT r
  unfold firstE
  rw [show firstE (errC [r]) 0 = 0 from rfl, if_neg (fun h => h rfl), h0]
/-- A list that a statement is given: not too long. -/
structure In (w : World) (ao : Option Addr) (c : Nat) (L : List Rt) : Prop where
  rts : Rts w ao L
  len : L.length ≤ 1000000000
  cap : L.length ≤ c
  hops : ∀ r ∈ L, r.hops.length ≤ 1000000000
theorem In.ext {w w' : World} {ao : Option Addr} {c : Nat} {L : List Rt} (h : In w ao c L) (he : Ext w w') : In w' ao c L := ⟨h.rts.ext he, h.len, h.cap, h.hops⟩
set_option maxHeartbeats 2000000 in
theorem hopsR49_v (ao : Option Addr) (L : List Rt) (c : Nat) (r : Rt) (w : World) (hL : In w ao c L) (hr : RtM w r) (hrl : r.hops.length ≤ 1000000000) :
    Calls Try.prog 17 #[.slice ao L.length c, r.val] w (Gives (H49R (hopsV L r) w) w) := by
  obtain ⟨ao', c', hR, hV⟩ := act_vl c hL.rts
  refine V_enter (vs := [_, _]) Try.func17 rfl Try.ntmps17 (Nat.le_of_ble_eq_true rfl) ?_
  repeat (first | refine Vx ?_ | (apply Ops_q; (case hon => exact Va); (case hd => rfl); (case hq => exact YlA)) | refine Vr ?_ | refine Vt ?_ | refine Vf ?_ | refine Vm ?_ | refine Ve ?_ | refine Vo ?_ | refine Vz ?_ | refine Vn ?_)
  (refine Ops_box (by exact Va) rfl rfl rfl ?_; intro w1 b3 n_b3; have k_b3 := n_b3.blk)
  have x1 := n_b3.ext
  clear n_b3
  repeat (first | refine Vx ?_ | (apply Ops_q; (case hon => exact Va); (case hd => rfl); (case hq => exact YlA)) | refine Vr ?_ | refine Vt ?_ | refine Vf ?_ | refine Vm ?_ | refine Ve ?_ | refine Vo ?_ | refine Vz ?_ | refine Vn ?_)
  (apply Ops_q; (case hon => (exact Va)); (case hd => rfl); (case hq => exact Yl_call rfl (fun w_ e_ => validR_v r w_ (hr.ext (x1.trans e_)) hrl)))
  repeat (first | refine Vx ?_ | (apply Ops_q; (case hon => exact Va); (case hd => rfl); (case hq => exact YlA)) | refine Vr ?_ | refine Vt ?_ | refine Vf ?_ | refine Vm ?_ | refine Ve ?_ | refine Vo ?_ | refine Vz ?_ | refine Vn ?_)
  by_cases t1 : errT r = 0
  · have d1 : (!decide (errT r = 0)) = false := by rw [decide_eq_true t1]; rfl
    refine V_no rfl d1 ?_
    have hv : hopsV L r = rou cbS (actL L) r := if_neg (fun h => h ((chkR_one r).trans t1))
    obtain ⟨_, hlr, hbr⟩ := errT_zero t1
    repeat (first | refine Vx ?_ | (apply Ops_q; (case hon => exact Va); (case hd => rfl); (case hq => exact YlA)) | refine Vt ?_ | refine Vf ?_ | refine Vm ?_ | refine Ve ?_ | refine Vo ?_ | refine Vz ?_ | refine Vn ?_)
    refine V_dr (by kernel_rfl) ?_
    refine Dr_step [0, 2] (by kernel_rfl) rfl ⟨?_, ?_, trivial⟩
    · (apply DrOp_q; (case hi => rfl); (case hon => exact Va); (case hd => rfl); (case hq => exact YlA))
      refine Dr_step [1, 2] (by kernel_rfl) rfl ⟨?_, ?_, trivial⟩
      · (apply DrOp_q; (case hi => rfl); (case hon => exact Va); (case hd => rfl); (case hq => exact Yl_call rfl (fun w_ e_ => listR_v ao L c _ w_ (hL.rts.ext (x1.trans e_)) hL.len hL.cap hL.hops hR)))
        refine Dr_step [2] (by kernel_rfl) rfl ⟨?_, trivial⟩
        (apply DrOp_q; (case hi => rfl); (case hon => exact Va); (case hd => rfl); (case hq => exact YlA))
        refine Dr_step [3] (by kernel_rfl) rfl ⟨?_, trivial⟩
        refine DrOp_callR (R := fun w0 u w' => H49R (rou cbS (actL L) r) w0 u w') rfl Va rfl rfl (fun w_ e_ => hops49T_v c' r w_ (hV.ext (x1.trans e_)) (hr.ext (x1.trans e_)) hlr (fun x hx => ⟨badH_good (hr.ok x hx) (hbr x hx), hbr x hx⟩)) ?_
        rintro _ w3 w3' e3 e3' ⟨ao3, c3, rfl, q1, q2, q3, q4⟩
        refine Dr_step [4, 5] (by kernel_rfl) rfl ⟨?_, ?_, trivial⟩
        · (apply DrOp_q; (case hi => rfl); (case hon => exact Va); (case hd => rfl); (case hq => exact YlA))
          refine Dr_step [5] (by kernel_rfl) rfl ⟨?_, trivial⟩
          (apply DrOp_q; (case hi => rfl); (case hon => exact Va); (case hd => rfl); (case hq => exact YlA))
          refine Dr_step [6] (by kernel_rfl) rfl ⟨?_, trivial⟩
          (apply DrOp_q; (case hi => rfl); (case hon => exact Va); (case hd => rfl); (case hq => exact YlA))
          refine Dr_step [7] (by kernel_rfl) rfl ⟨?_, trivial⟩
          (apply DrOp_q; (case hi => rfl); (case hon => exact Va); (case hd => rfl); (case hq => exact YlA))
          refine Dr_end (by kernel_rfl) ?_
          repeat (first | refine Vx ?_ | (apply Ops_q; (case hon => exact Va); (case hd => rfl); (case hq => exact YlA)) | refine Vr ?_ | refine Vt ?_ | refine Vf ?_ | refine Vm ?_ | refine Ve ?_ | refine Vo ?_ | refine Vz ?_ | refine Vn ?_)
          refine ret2 (by first | exact .inl rfl | exact .inr rfl) rfl rfl rfl ?_
          refine Gives_mk (fun w' he => ?_) ((x1.trans e3).trans e3')
          rw [hv]
          exact ⟨ao3, c3, rfl, q1.ext he, q2, q3, fun a ha => ⟨Nat.le_trans (x1.trans e3).size (q4 a ha).1, Nat.lt_of_lt_of_le (q4 a ha).2 he.size⟩⟩
        · (apply DrOp_q; (case hi => rfl); (case hon => exact Va); (case hd => rfl); (case hq => exact YlA))
          refine Dr_step [4] (by kernel_rfl) rfl ⟨?_, trivial⟩
          (apply DrOp_q; (case hi => rfl); (case hon => exact Va); (case hd => rfl); (case hq => exact YlA))
          refine Dr_step [6] (by kernel_rfl) rfl ⟨?_, trivial⟩
          (apply DrOp_q; (case hi => rfl); (case hon => exact Va); (case hd => rfl); (case hq => exact YlA))
          refine Dr_step [7] (by kernel_rfl) rfl ⟨?_, trivial⟩
          (apply DrOp_q; (case hi => rfl); (case hon => exact Va); (case hd => rfl); (case hq => exact YlA))
          refine Dr_end (by kernel_rfl) ?_
          repeat (first | refine Vx ?_ | (apply Ops_q; (case hon => exact Va); (case hd => rfl); (case hq => exact YlA)) | refine Vr ?_ | refine Vt ?_ | refine Vf ?_ | refine Vm ?_ | refine Ve ?_ | refine Vo ?_ | refine Vz ?_ | refine Vn ?_)
          refine ret2 (by first | exact .inl rfl | exact .inr rfl) rfl rfl rfl ?_
          refine Gives_mk (fun w' he => ?_) ((x1.trans e3).trans e3')
          rw [hv]
          exact ⟨ao3, c3, rfl, q1.ext he, q2, q3, fun a ha => ⟨Nat.le_trans (x1.trans e3).size (q4 a ha).1, Nat.lt_of_lt_of_le (q4 a ha).2 he.size⟩⟩
      · (apply DrOp_q; (case hi => rfl); (case hon => exact Va); (case hd => rfl); (case hq => exact YlA))
        refine Dr_step [1] (by kernel_rfl) rfl ⟨?_, trivial⟩
        (apply DrOp_q; (case hi => rfl); (case hon => exact Va); (case hd => rfl); (case hq => exact Yl_call rfl (fun w_ e_ => listR_v ao L c _ w_ (hL.rts.ext (x1.trans e_)) hL.len hL.cap hL.hops hR)))
        refine Dr_step [3] (by kernel_rfl) rfl ⟨?_, trivial⟩
        refine DrOp_callR (R := fun w0 u w' => H49R (rou cbS (actL L) r) w0 u w') rfl Va rfl rfl (fun w_ e_ => hops49T_v c' r w_ (hV.ext (x1.trans e_)) (hr.ext (x1.trans e_)) hlr (fun x hx => ⟨badH_good (hr.ok x hx) (hbr x hx), hbr x hx⟩)) ?_
        rintro _ w3 w3' e3 e3' ⟨ao3, c3, rfl, q1, q2, q3, q4⟩
        refine Dr_step [4, 5] (by kernel_rfl) rfl ⟨?_, ?_, trivial⟩
        · (apply DrOp_q; (case hi => rfl); (case hon => exact Va); (case hd => rfl); (case hq => exact YlA))
          refine Dr_step [5] (by kernel_rfl) rfl ⟨?_, trivial⟩
          (apply DrOp_q; (case hi => rfl); (case hon => exact Va); (case hd => rfl); (case hq => exact YlA))
          refine Dr_step [6] (by kernel_rfl) rfl ⟨?_, trivial⟩
          (apply DrOp_q; (case hi => rfl); (case hon => exact Va); (case hd => rfl); (case hq => exact YlA))
          refine Dr_step [7] (by kernel_rfl) rfl ⟨?_, trivial⟩
          (apply DrOp_q; (case hi => rfl); (case hon => exact Va); (case hd => rfl); (case hq => exact YlA))
          refine Dr_end (by kernel_rfl) ?_
          repeat (first | refine Vx ?_ | (apply Ops_q; (case hon => exact Va); (case hd => rfl); (case hq => exact YlA)) | refine Vr ?_ | refine Vt ?_ | refine Vf ?_ | refine Vm ?_ | refine Ve ?_ | refine Vo ?_ | refine Vz ?_ | refine Vn ?_)
          refine ret2 (by first | exact .inl rfl | exact .inr rfl) rfl rfl rfl ?_
          refine Gives_mk (fun w' he => ?_) ((x1.trans e3).trans e3')
          rw [hv]
          exact ⟨ao3, c3, rfl, q1.ext he, q2, q3, fun a ha => ⟨Nat.le_trans (x1.trans e3).size (q4 a ha).1, Nat.lt_of_lt_of_le (q4 a ha).2 he.size⟩⟩
        · (apply DrOp_q; (case hi => rfl); (case hon => exact Va); (case hd => rfl); (case hq => exact YlA))
          refine Dr_step [4] (by kernel_rfl) rfl ⟨?_, trivial⟩
          (apply DrOp_q; (case hi => rfl); (case hon => exact Va); (case hd => rfl); (case hq => exact YlA))
          refine Dr_step [6] (by kernel_rfl) rfl ⟨?_, trivial⟩
          (apply DrOp_q; (case hi => rfl); (case hon => exact Va); (case hd => rfl); (case hq => exact YlA))
          refine Dr_step [7] (by kernel_rfl) rfl ⟨?_, trivial⟩
          (apply DrOp_q; (case hi => rfl); (case hon => exact Va); (case hd => rfl); (case hq => exact YlA))
          refine Dr_end (by kernel_rfl) ?_
          repeat (first | refine Vx ?_ | (apply Ops_q; (case hon => exact Va); (case hd => rfl); (case hq => exact YlA)) | refine Vr ?_ | refine Vt ?_ | refine Vf ?_ | refine Vm ?_ | refine Ve ?_ | refine Vo ?_ | refine Vz ?_ | refine Vn ?_)
          refine ret2 (by first | exact .inl rfl | exact .inr rfl) rfl rfl rfl ?_
          refine Gives_mk (fun w' he => ?_) ((x1.trans e3).trans e3')
          rw [hv]
          exact ⟨ao3, c3, rfl, q1.ext he, q2, q3, fun a ha => ⟨Nat.le_trans (x1.trans e3).size (q4 a ha).1, Nat.lt_of_lt_of_le (q4 a ha).2 he.size⟩⟩
    · (apply DrOp_q; (case hi => rfl); (case hon => exact Va); (case hd => rfl); (case hq => exact YlA))
      refine Dr_step [0] (by kernel_rfl) rfl ⟨?_, trivial⟩
      (apply DrOp_q; (case hi => rfl); (case hon => exact Va); (case hd => rfl); (case hq => exact YlA))
      refine Dr_step [1] (by kernel_rfl) rfl ⟨?_, trivial⟩
      (apply DrOp_q; (case hi => rfl); (case hon => exact Va); (case hd => rfl); (case hq => exact Yl_call rfl (fun w_ e_ => listR_v ao L c _ w_ (hL.rts.ext (x1.trans e_)) hL.len hL.cap hL.hops hR)))
      refine Dr_step [3] (by kernel_rfl) rfl ⟨?_, trivial⟩
      refine DrOp_callR (R := fun w0 u w' => H49R (rou cbS (actL L) r) w0 u w') rfl Va rfl rfl (fun w_ e_ => hops49T_v c' r w_ (hV.ext (x1.trans e_)) (hr.ext (x1.trans e_)) hlr (fun x hx => ⟨badH_good (hr.ok x hx) (hbr x hx), hbr x hx⟩)) ?_
      rintro _ w3 w3' e3 e3' ⟨ao3, c3, rfl, q1, q2, q3, q4⟩
      refine Dr_step [4, 5] (by kernel_rfl) rfl ⟨?_, ?_, trivial⟩
      · (apply DrOp_q; (case hi => rfl); (case hon => exact Va); (case hd => rfl); (case hq => exact YlA))
        refine Dr_step [5] (by kernel_rfl) rfl ⟨?_, trivial⟩
        (apply DrOp_q; (case hi => rfl); (case hon => exact Va); (case hd => rfl); (case hq => exact YlA))
        refine Dr_step [6] (by kernel_rfl) rfl ⟨?_, trivial⟩
        (apply DrOp_q; (case hi => rfl); (case hon => exact Va); (case hd => rfl); (case hq => exact YlA))
        refine Dr_step [7] (by kernel_rfl) rfl ⟨?_, trivial⟩
        (apply DrOp_q; (case hi => rfl); (case hon => exact Va); (case hd => rfl); (case hq => exact YlA))
        refine Dr_end (by kernel_rfl) ?_
        repeat (first | refine Vx ?_ | (apply Ops_q; (case hon => exact Va); (case hd => rfl); (case hq => exact YlA)) | refine Vr ?_ | refine Vt ?_ | refine Vf ?_ | refine Vm ?_ | refine Ve ?_ | refine Vo ?_ | refine Vz ?_ | refine Vn ?_)
        refine ret2 (by first | exact .inl rfl | exact .inr rfl) rfl rfl rfl ?_
        refine Gives_mk (fun w' he => ?_) ((x1.trans e3).trans e3')
        rw [hv]
        exact ⟨ao3, c3, rfl, q1.ext he, q2, q3, fun a ha => ⟨Nat.le_trans (x1.trans e3).size (q4 a ha).1, Nat.lt_of_lt_of_le (q4 a ha).2 he.size⟩⟩
      · (apply DrOp_q; (case hi => rfl); (case hon => exact Va); (case hd => rfl); (case hq => exact YlA))
        refine Dr_step [4] (by kernel_rfl) rfl ⟨?_, trivial⟩
        (apply DrOp_q; (case hi => rfl); (case hon => exact Va); (case hd => rfl); (case hq => exact YlA))
        refine Dr_step [6] (by kernel_rfl) rfl ⟨?_, trivial⟩
        (apply DrOp_q; (case hi => rfl); (case hon => exact Va); (case hd => rfl); (case hq => exact YlA))
        refine Dr_step [7] (by kernel_rfl) rfl ⟨?_, trivial⟩
        (apply DrOp_q; (case hi => rfl); (case hon => exact Va); (case hd => rfl); (case hq => exact YlA))
        refine Dr_end (by kernel_rfl) ?_
        repeat (first | refine Vx ?_ | (apply Ops_q; (case hon => exact Va); (case hd => rfl); (case hq => exact YlA)) | refine Vr ?_ | refine Vt ?_ | refine Vf ?_ | refine Vm ?_ | refine Ve ?_ | refine Vo ?_ | refine Vz ?_ | refine Vn ?_)
        refine ret2 (by first | exact .inl rfl | exact .inr rfl) rfl rfl rfl ?_
        refine Gives_mk (fun w' he => ?_) ((x1.trans e3).trans e3')
        rw [hv]
        exact ⟨ao3, c3, rfl, q1.ext he, q2, q3, fun a ha => ⟨Nat.le_trans (x1.trans e3).size (q4 a ha).1, Nat.lt_of_lt_of_le (q4 a ha).2 he.size⟩⟩
  · have d1 : (!decide (errT r = 0)) = true := by rw [decide_eq_false t1]; rfl
    refine V_yes rfl d1 ?_
    repeat (first | refine Vx ?_ | (apply Ops_q; (case hon => exact Va); (case hd => rfl); (case hq => exact YlA)) | refine Vr ?_ | refine Vt ?_ | refine Vf ?_ | refine Vm ?_ | refine Ve ?_ | refine Vo ?_ | refine Vz ?_ | refine Vn ?_)
    refine ret2 (by first | exact .inl rfl | exact .inr rfl) rfl rfl rfl ?_
    refine Gives_mk (fun w' he => ?_) x1
    rw [show hopsV L r = (errT r, []) by unfold hopsV; rw [chkR_one, if_pos t1]]
    exact H49R.nil _ w w'
/-! ### Find -/
/-- A route like s in memory, and whether there is one. -/
def FndR (s : Rt) (b : Bool) (v : Value) (w' : World) : Prop := ∃ r : Rt, v = .tuple #[r.val, .bool b] ∧ RtM w' r ∧ SameR r s
theorem cloneNh_v (ao : Option Addr) (L : List Nh) (c : Nat) (w : World) (hA : Nhs w ao L) (hz : ao = none → L = []) (hb : L.length ≤ 1000000) :
    Calls Try.prog 32 #[.slice ao L.length c] w (Gives (fun r w' => Own w' w.heap.size 48 6 r (L.map Nh.cells)) w) := by
  refine V_enter (vs := [_]) Try.func32 rfl Try.ntmps32 (Nat.le_of_ble_eq_true rfl) ?_
  repeat (first | refine Vx ?_ | (apply Ops_q; (case hon => exact Va); (case hd => rfl); (case hq => exact YlA)) | refine Vr ?_ | refine Vt ?_ | refine Vf ?_ | refine Vm ?_ | refine Ve ?_ | refine Vo ?_ | refine Vz ?_ | refine Vn ?_)
  (apply Ops_q; (case hon => (exact Va)); (case hd => rfl); (case hq => exact Yl_eqnilR rfl rfl))
  cases ao with
  | none =>
    obtain rfl : L = [] := hz rfl
    repeat (first | refine Vx ?_ | (apply Ops_q; (case hon => exact Va); (case hd => rfl); (case hq => exact YlA)) | refine Vr ?_ | refine Vt ?_ | refine Vf ?_ | refine Vm ?_ | refine Ve ?_ | refine Vo ?_ | refine Vz ?_ | refine Vn ?_)
    refine ret1 (by first | exact .inl rfl | exact .inr rfl) rfl rfl ?_
    exact Gives_mk (fun w' he => Own.nil) (Ext.refl _)
  | some ad =>
    repeat (first | refine Vx ?_ | (apply Ops_q; (case hon => exact Va); (case hd => rfl); (case hq => exact YlA)) | refine Vr ?_ | refine Vt ?_ | refine Vf ?_ | refine Vm ?_ | refine Ve ?_ | refine Vo ?_ | refine Vz ?_ | refine Vn ?_)
    (refine Ops_lit0 (by exact Va) rfl ?_; intro w1 b1 n_b1 o_b1)
    repeat (first | refine Vx ?_ | (apply Ops_q; (case hon => exact Va); (case hd => rfl); (case hq => exact YlA)) | refine Vr ?_ | refine Vt ?_ | refine Vf ?_ | refine Vm ?_ | refine Ve ?_ | refine Vo ?_ | refine Vz ?_ | refine Vn ?_)
    refine Ops_appendA (base := w.heap.size) (by exact Va) rfl rfl rfl rfl (List.length_map ..).symm o_b1 (hA.ext n_b1.ext) (fun h => by cases h) (nhs_one L).1 (nhs_one L).2 (by rw [List.length_map]; simp; omega) rfl n_b1.ext.size ?_
    intro v' w2 o2 g2 _
    have e2 := grow_below n_b1.ext g2 (fun b hb => by cases hb; exact n_b1.ge)
    repeat (first | refine Vx ?_ | (apply Ops_q; (case hon => exact Va); (case hd => rfl); (case hq => exact YlA)) | refine Vr ?_ | refine Vt ?_ | refine Vf ?_ | refine Vm ?_ | refine Ve ?_ | refine Vo ?_ | refine Vz ?_ | refine Vn ?_)
    refine ret1 (by first | exact .inl rfl | exact .inr rfl) rfl rfl ?_
    exact Gives_mk (fun w' he => o2.ext he) e2
theorem RtM.zero {w : World} {r : Rt} (h : RtM w r) (e : r.ao = none) : r.hops = [] := by
  have h1 := h.nil e
  have h2 := h.cap
  exact List.length_eq_zero_iff.1 (by omega)
set_option maxHeartbeats 2000000 in
theorem findP_v (ao : Option Addr) (L : List Rt) (c a : Nat) (w : World) (hL : In w ao c L) (ha : a < 4294967296) :
    Calls Try.prog 11 #[.slice ao L.length c, .int .u32 a] w (Gives (FndR (rtO (actL L) (lg (fun _ => true) a (actL L))) (lg (fun _ => true) a (actL L)).isSome) w) := by
  obtain ⟨ao', c', hR, hV⟩ := act_vl c hL.rts
  have hact := actL_actv L
  generalize actL L = V at *
  obtain ⟨hlen, herr, _⟩ := chkR_zero hact.1
  have hval : ∀ r ∈ V, r.p.valid = true := fun r hr => (errT_zero (herr r hr)).1
  refine V_enter (vs := [_, _]) Try.func11 rfl Try.ntmps11 (Nat.le_of_ble_eq_true rfl) ?_
  repeat (first | refine Vx ?_ | (apply Ops_q; (case hon => exact Va); (case hd => rfl); (case hq => exact YlA)) | refine Vr ?_ | refine Vt ?_ | refine Vf ?_ | refine Vm ?_ | refine Ve ?_ | refine Vo ?_ | refine Vz ?_ | refine Vn ?_)
  (refine Ops_alloc (by exact Va) rfl ?_; intro w1 b4 n_b4; have k_b4 := n_b4.blk)
  have x1 := n_b4.ext
  have g4 := n_b4.ge
  clear n_b4
  repeat (first | refine Vx ?_ | (apply Ops_q; (case hon => exact Va); (case hd => rfl); (case hq => exact YlA)) | refine Vr ?_ | refine Vt ?_ | refine Vf ?_ | refine Vm ?_ | refine Ve ?_ | refine Vo ?_ | refine Vz ?_ | refine Vn ?_)
  (apply Ops_q; (case hon => (exact Va)); (case hd => rfl); (case hq => exact Yl_call rfl (fun w_ e_ => list_v ao L c _ w_ (hL.rts.ext (x1.trans e_)) hL.len hR)))
  repeat (first | refine Vx ?_ | (apply Ops_q; (case hon => exact Va); (case hd => rfl); (case hq => exact YlA)) | refine Vr ?_ | refine Vt ?_ | refine Vf ?_ | refine Vm ?_ | refine Ve ?_ | refine Vo ?_ | refine Vz ?_ | refine Vn ?_)
  (refine Ops_callR (by exact Va) rfl rfl (fun w_ e_ => tree_v 31 (fun _ => true) ao' V c' w_ (hV.rts.ext (x1.trans e_)) (by omega) hval (fun r w' => wantAll_v r w')) ?_; intro v w2 w0_ e0_ e1_ r_v; have e_w2 := e0_.trans e1_; have b_v := e0_.size; clear e0_ e1_)
  obtain ⟨tb, N, rfl, hT⟩ := r_v
  have x2 := x1.trans e_w2
  replace k_b4 := k_b4.ext e_w2
  repeat (first | refine Vx ?_ | (apply Ops_q; (case hon => exact Va); (case hd => rfl); (case hq => exact YlA)) | refine Vr ?_ | refine Vt ?_ | refine Vf ?_ | refine Vm ?_ | refine Ve ?_ | refine Vo ?_ | refine Vz ?_ | refine Vn ?_)
  (apply Ops_q; (case hon => (exact Va)); (case hd => rfl); (case hq => exact Yl_call rfl (fun w_ e_ => longest_v a w_ (hT.ext e_) ha)))
  rw [lookV_lg hV.dist hval]
  repeat (first | refine Vx ?_ | (apply Ops_q; (case hon => exact Va); (case hd => rfl); (case hq => exact YlA)) | refine Vr ?_ | refine Vt ?_ | refine Vf ?_ | refine Vm ?_ | refine Ve ?_ | refine Vo ?_ | refine Vz ?_ | refine Vn ?_)
  cases hl : lg (fun _ => true) a V with
  | none =>
    have d2 : decide (numI none < 0) = true := rfl
    refine V_yes rfl d2 ?_
    repeat (first | refine Vx ?_ | (apply Ops_q; (case hon => exact Va); (case hd => rfl); (case hq => exact YlA)) | refine Vr ?_ | refine Vt ?_ | refine Vf ?_ | refine Vm ?_ | refine Ve ?_ | refine Vo ?_ | refine Vz ?_ | refine Vn ?_)
    refine Ops_store (by exact Va) rfl rfl k_b4 (by first | rfl | exact OneAll.h) ?_
    intro w7 u7
    have x7 := u7.below x2 g4
    have k7 := u7.blk
    repeat (first | refine Vx ?_ | (apply Ops_q; (case hon => exact Va); (case hd => rfl); (case hq => exact YlA)) | refine Vr ?_ | refine Vt ?_ | refine Vf ?_ | refine Vm ?_ | refine Ve ?_ | refine Vo ?_ | refine Vz ?_ | refine Vn ?_)
    refine retR2 (.inl rfl) rfl (res_agg rfl k7.cells) (by rfl) ?_
    exact Gives_mk (fun w' he => ⟨zeroR, rfl, zeroR_mem w', SameR.rfl' _⟩) x7
  | some i =>
    obtain ⟨hil, r, hr, _⟩ := lg_in hl
    have d2 : decide (numI (some i) < 0) = false := decide_eq_false (show ¬((i : Nat) : Int) < 0 by omega)
    refine V_no rfl d2 ?_
    unfold numI
    have hm : r ∈ V := List.mem_of_getElem? hr
    have rm := hV.rts.mem r hm
    have hh := hV.hops r hm
    obtain ⟨ad, rfl, hc⟩ := (hV.rts.ext x2).at hr
    have l4 := k_b4.lt
    repeat (first | refine Vx ?_ | (apply Ops_q; (case hon => exact Va); (case hd => rfl); (case hq => exact YlA)) | refine Vr ?_ | refine Vt ?_ | refine Vf ?_ | refine Vm ?_ | refine Ve ?_ | refine Vo ?_ | refine Vz ?_ | refine Vn ?_)
    (apply Ops_q; (case hon => (exact Va)); (case hd => rfl); (case hq => exact Yl_indexS (j := i) rfl rfl (by omega)))
    repeat (first | refine Vx ?_ | (apply Ops_q; (case hon => exact Va); (case hd => rfl); (case hq => exact YlA)) | refine Vr ?_ | refine Vt ?_ | refine Vf ?_ | refine Vm ?_ | refine Ve ?_ | refine Vo ?_ | refine Vz ?_ | refine Vn ?_)
    (refine Ops_alloc (by exact Va) rfl ?_; intro w3 b8 n_b8; have k_b8 := n_b8.blk)
    repeat (first | refine Vx ?_ | (apply Ops_q; (case hon => exact Va); (case hd => rfl); (case hq => exact YlA)) | refine Vr ?_ | refine Vt ?_ | refine Vf ?_ | refine Vm ?_ | refine Ve ?_ | refine Vo ?_ | refine Vz ?_ | refine Vn ?_)
    (refine Ops_store (by exact Va) rfl rfl (by assumption) (by first | rfl | exact OneAll.h) ?_; intro w4 u_w4; have k_b8 := u_w4.blk)
    have y4 := u_w4.below n_b8.ext n_b8.ge
    have g8 := n_b8.ge
    have x4 := x2.trans y4
    replace k_b4 := k_b4.ext y4
    clear u_w4 n_b8 hc
    have l8 := k_b8.lt
    have z4 := y4.size
    repeat (first | refine Vx ?_ | (apply Ops_q; (case hon => exact Va); (case hd => rfl); (case hq => exact YlA)) | refine Vr ?_ | refine Vt ?_ | refine Vf ?_ | refine Vm ?_ | refine Ve ?_ | refine Vo ?_ | refine Vz ?_ | refine Vn ?_)
    (refine Ops_callR (by exact Va) rfl rfl (fun w_ e_ => cloneNh_v r.ao r.hops r.c w_ ((rm.ext (x4.trans e_)).hops) rm.zero (by omega)) ?_; intro v w5 w0_ e0_ e1_ r_v; have e_w5 := e0_.trans e1_; have b_v := e0_.size; clear e0_ e1_)
    obtain ⟨ao5, c5, rfl, hN5, hc5, hn5⟩ := r_v.slice2
    rw [List.length_map] at hc5 r_v ⊢
    have x5 := x4.trans e_w5
    replace k_b4 := k_b4.ext e_w5
    replace k_b8 := k_b8.ext e_w5
    repeat (first | refine Vx ?_ | (apply Ops_q; (case hon => exact Va); (case hd => rfl); (case hq => exact YlA)) | refine Vr ?_ | refine Vt ?_ | refine Vf ?_ | refine Vm ?_ | refine Ve ?_ | refine Vo ?_ | refine Vz ?_ | refine Vn ?_)
    refine Ops_store (by exact Va) rfl rfl k_b8 (by first | rfl | exact OneAll.h) ?_
    intro w6 u6
    have k86 := u6.blk
    have x6 := u6.below x5 (Nat.le_trans x2.size g8)
    have ne48 : b4 ≠ b8 := by omega
    have k46 := u6.keep k_b4 ne48
    have r6 := r_v.upd u6 (fun e => by have h1 := r_v.ge e; omega)
    repeat (first | refine Vx ?_ | (apply Ops_q; (case hon => exact Va); (case hd => rfl); (case hq => exact YlA)) | refine Vr ?_ | refine Vt ?_ | refine Vf ?_ | refine Vm ?_ | refine Ve ?_ | refine Vo ?_ | refine Vz ?_ | refine Vn ?_)
    refine Ops_store (by exact Va) rfl rfl k46 (by first | rfl | exact OneAll.h) ?_
    intro w7 u7
    have k7 := u7.blk
    have x7 := u7.below x6 g4
    have r7 := r6.upd u7 (fun e => by have h1 := r6.ge e; omega)
    repeat (first | refine Vx ?_ | (apply Ops_q; (case hon => exact Va); (case hd => rfl); (case hq => exact YlA)) | refine Vr ?_ | refine Vt ?_ | refine Vf ?_ | refine Vm ?_ | refine Ve ?_ | refine Vo ?_ | refine Vz ?_ | refine Vn ?_)
    refine retR2 (.inl rfl) rfl (res_agg rfl k7.cells) (by rfl) ?_
    refine Gives_mk (fun w' he => ⟨⟨r.p, r.proto, r.dist, r.metric, r.tag, ao5, c5, r.hops⟩, rfl, ?_, ?_⟩) x7
    · obtain ⟨ao7, c7, e7, hN7⟩ := r7.slice
      rw [List.length_map] at e7
      injection e7 with e1 e2 e3
      subst e1
      exact ⟨hN7.ext he, hn5, hc5, rm.pa, rm.ok⟩
    · rw [rtO_some hr]
      exact ⟨rfl, rfl, rfl, rfl, rfl, rfl⟩
set_option maxHeartbeats 1000000 in
theorem find49_v (ao : Option Addr) (L : List Rt) (c a : Nat) (w : World) (hL : In w ao c L) (ha : a < 4294967296) :
    Calls Try.prog 12 #[.slice ao L.length c, .int .u32 a] w (Gives (FndR (rtO (actL L) (lg (fun _ => true) a (actL L))) (lg (fun _ => true) a (actL L)).isSome) w) := by
  obtain ⟨ao', c', hR, hV⟩ := act_vl c hL.rts
  have hlen := hV.len
  refine V_enter (vs := [_, _]) Try.func12 rfl Try.ntmps12 (Nat.le_of_ble_eq_true rfl) ?_
  repeat (first | refine Vx ?_ | (apply Ops_q; (case hon => exact Va); (case hd => rfl); (case hq => exact YlA)) | refine Vr ?_ | refine Vt ?_ | refine Vf ?_ | refine Vm ?_ | refine Ve ?_ | refine Vo ?_ | refine Vz ?_ | refine Vn ?_)
  (refine Ops_alloc (by exact Va) rfl ?_; intro w1 b4 n_b4; have k_b4 := n_b4.blk)
  have x1 := n_b4.ext
  have g4 := n_b4.ge
  clear n_b4
  repeat (first | refine Vx ?_ | (apply Ops_q; (case hon => exact Va); (case hd => rfl); (case hq => exact YlA)) | refine Vr ?_ | refine Vt ?_ | refine Vf ?_ | refine Vm ?_ | refine Ve ?_ | refine Vo ?_ | refine Vz ?_ | refine Vn ?_)
  (apply Ops_q; (case hon => (exact Va)); (case hd => rfl); (case hq => exact Yl_call rfl (fun w_ e_ => listR_v ao L c _ w_ (hL.rts.ext (x1.trans e_)) hL.len hL.cap hL.hops hR)))
  repeat (first | refine Vx ?_ | (apply Ops_q; (case hon => exact Va); (case hd => rfl); (case hq => exact YlA)) | refine Vr ?_ | refine Vt ?_ | refine Vf ?_ | refine Vm ?_ | refine Ve ?_ | refine Vo ?_ | refine Vz ?_ | refine Vn ?_)
  (apply Ops_q; (case hon => (exact Va)); (case hd => rfl); (case hq => exact Yl_call rfl (fun w_ e_ => longestR_v ao' (actL L) c' a true w_ (hV.rts.ext (x1.trans e_)) (by omega) ha)))
  repeat (first | refine Vx ?_ | (apply Ops_q; (case hon => exact Va); (case hd => rfl); (case hq => exact YlA)) | refine Vr ?_ | refine Vt ?_ | refine Vf ?_ | refine Vm ?_ | refine Ve ?_ | refine Vo ?_ | refine Vz ?_ | refine Vn ?_)
  refine Ops_store (by exact Va) rfl rfl k_b4 (by first | rfl | exact OneAll.h) ?_
  intro w7 u7
  have x7 := u7.below x1 g4
  have k7 := u7.blk
  repeat (first | refine Vx ?_ | (apply Ops_q; (case hon => exact Va); (case hd => rfl); (case hq => exact YlA)) | refine Vr ?_ | refine Vt ?_ | refine Vf ?_ | refine Vm ?_ | refine Ve ?_ | refine Vo ?_ | refine Vz ?_ | refine Vn ?_)
  refine retR2 (.inl rfl) rfl (res_agg rfl k7.cells) (by rfl) ?_
  exact Gives_mk (fun w' he => ⟨rtO (actL L) (lg (fun _ => true) a (actL L)), rfl, (rtO_mem hV.rts _).ext (x7.trans he), SameR.rfl' _⟩) x7
/-! ### Cost -/
set_option maxHeartbeats 2000000 in
theorem cost49_v (ao : Option Addr) (L : List Rt) (c a : Nat) (w : World) (hL : In w ao c L) (ha : a < 4294967296) :
    Calls Try.prog 14 #[.slice ao L.length c, .int .u32 a] w (Ret (.tuple #[.int .i64 (costV L a).1, .bool (costV L a).2]) w) := by
  obtain ⟨ao', c', hR, hV⟩ := act_vl c hL.rts
  have hlen := hV.len
  unfold costV
  refine V_enter (vs := [_, _]) Try.func14 rfl Try.ntmps14 (Nat.le_of_ble_eq_true rfl) ?_
  repeat (first | refine Vx ?_ | (apply Ops_q; (case hon => exact Va); (case hd => rfl); (case hq => exact YlA)) | refine Vr ?_ | refine Vt ?_ | refine Vf ?_ | refine Vm ?_ | refine Ve ?_ | refine Vo ?_ | refine Vz ?_ | refine Vn ?_)
  (apply Ops_q; (case hon => (exact Va)); (case hd => rfl); (case hq => exact Yl_call rfl (fun w_ e_ => listR_v ao L c _ w_ (hL.rts.ext e_) hL.len hL.cap hL.hops hR)))
  repeat (first | refine Vx ?_ | (apply Ops_q; (case hon => exact Va); (case hd => rfl); (case hq => exact YlA)) | refine Vr ?_ | refine Vt ?_ | refine Vf ?_ | refine Vm ?_ | refine Ve ?_ | refine Vo ?_ | refine Vz ?_ | refine Vn ?_)
  (apply Ops_q; (case hon => (exact Va)); (case hd => rfl); (case hq => exact Yl_call rfl (fun w_ e_ => longestR_v ao' (actL L) c' a false w_ (hV.rts.ext e_) (by omega) ha)))
  rw [show (fun r : Rt => false || !isV r) = (fun r => !isV r) from rfl]
  repeat (first | refine Vx ?_ | (apply Ops_q; (case hon => exact Va); (case hd => rfl); (case hq => exact YlA)) | refine Vr ?_ | refine Vt ?_ | refine Vf ?_ | refine Vm ?_ | refine Ve ?_ | refine Vo ?_ | refine Vz ?_ | refine Vn ?_)
  (refine Ops_alloc (by exact Va) rfl ?_; intro w1 b6 n_b6; have k_b6 := n_b6.blk)
  have x1 := n_b6.ext
  repeat (first | refine Vx ?_ | (apply Ops_q; (case hon => exact Va); (case hd => rfl); (case hq => exact YlA)) | refine Vr ?_ | refine Vt ?_ | refine Vf ?_ | refine Vm ?_ | refine Ve ?_ | refine Vo ?_ | refine Vz ?_ | refine Vn ?_)
  (refine Ops_store (by exact Va) rfl rfl (by assumption) (by first | rfl | exact OneAll.h) ?_; intro w2 u_w2; have k_b6 := u_w2.blk)
  have x2 := u_w2.below x1 n_b6.ge
  clear u_w2 n_b6 x1
  repeat (first | refine Vx ?_ | (apply Ops_q; (case hon => exact Va); (case hd => rfl); (case hq => exact YlA)) | refine Vr ?_ | refine Vt ?_ | refine Vf ?_ | refine Vm ?_ | refine Ve ?_ | refine Vo ?_ | refine Vz ?_ | refine Vn ?_)
  cases hl : lg (fun r => !isV r) a (actL L) with
  | none =>
    repeat (first | refine Vx ?_ | (apply Ops_q; (case hon => exact Va); (case hd => rfl); (case hq => exact YlA)) | refine Vr ?_ | refine Vt ?_ | refine Vf ?_ | refine Vm ?_ | refine Ve ?_ | refine Vo ?_ | refine Vz ?_ | refine Vn ?_)
    refine ret2 (by first | exact .inl rfl | exact .inr rfl) rfl rfl rfl ?_
    exact Ret_mk rfl x2
  | some i =>
    rw [hl] at k_b6
    obtain ⟨hil, r, hr, _⟩ := lg_in hl
    rw [rtO_some hr] at k_b6
    simp only [Option.bind_some, hr]
    have hm : r ∈ actL L := List.mem_of_getElem? hr
    have rm := hV.rts.mem r hm
    have hh := hV.hops r hm
    have hok : chkR [r] = 0 := (chkR_one r).trans ((chkR_zero (actL_actv L).1).2.1 r hm)
    have hvr : hopsV L r = rou cbS (actL L) r := if_neg (fun h => h hok)
    have kk6 := k_b6
    unfold Rt.cells at k_b6
    repeat (first | refine Vx ?_ | (apply Ops_q; (case hon => exact Va); (case hd => rfl); (case hq => exact YlA)) | refine Vr ?_ | refine Vt ?_ | refine Vf ?_ | refine Vm ?_ | refine Ve ?_ | refine Vo ?_ | refine Vz ?_ | refine Vn ?_)
    by_cases t2 : r.hops = []
    · have d2 : decide ((r.hops.length : Int) = 0) = true := decide_eq_true (by rw [t2]; rfl)
      refine V_yes rfl d2 ?_
      repeat (first | refine Vx ?_ | (apply Ops_q; (case hon => exact Va); (case hd => rfl); (case hq => exact YlA)) | refine Vr ?_ | refine Vt ?_ | refine Vf ?_ | refine Vm ?_ | refine Ve ?_ | refine Vo ?_ | refine Vz ?_ | refine Vn ?_)
      refine ret2 (by first | exact .inl rfl | exact .inr rfl) rfl rfl rfl ?_
      exact Ret_mk (by rw [if_pos t2]) x2
    · have hpos : 0 < r.hops.length := List.length_pos_iff.2 t2
      have d2 : decide ((r.hops.length : Int) = 0) = false := decide_eq_false (by omega)
      refine V_no rfl d2 ?_
      rw [if_neg t2]
      clear k_b6
      repeat (first | refine Vx ?_ | (apply Ops_q; (case hon => exact Va); (case hd => rfl); (case hq => exact YlA)) | refine Vr ?_ | refine Vt ?_ | refine Vf ?_ | refine Vm ?_ | refine Ve ?_ | refine Vo ?_ | refine Vz ?_ | refine Vn ?_)
      (refine Ops_callR (by exact Va) rfl rfl (fun w_ e_ => hopsR49_v ao L c r w_ (hL.ext (x2.trans e_)) (rm.ext (x2.trans e_)) (by omega)) ?_; intro u w3 w0_ e0_ e1_ r_u; have e_w3 := e0_.trans e1_; have b_u := e0_.size; clear e0_ e1_)
      rw [hvr] at r_u
      obtain ⟨ao3, c3, rfl, _⟩ := r_u
      have x3 := x2.trans e_w3
      have k63 := kk6.ext e_w3
      unfold Rt.cells at k63
      repeat (first | refine Vx ?_ | (apply Ops_q; (case hon => exact Va); (case hd => rfl); (case hq => exact YlA)) | refine Vr ?_ | refine Vt ?_ | refine Vf ?_ | refine Vm ?_ | refine Ve ?_ | refine Vo ?_ | refine Vz ?_ | refine Vn ?_)
      by_cases t3 : (rou cbS (actL L) r).1 = 0
      · have d3 : (!decide ((rou cbS (actL L) r).1 = 0)) = false := by rw [decide_eq_true t3]; rfl
        refine V_no rfl d3 ?_
        repeat (first | refine Vx ?_ | (apply Ops_q; (case hon => exact Va); (case hd => rfl); (case hq => exact YlA)) | refine Vr ?_ | refine Vt ?_ | refine Vf ?_ | refine Vm ?_ | refine Ve ?_ | refine Vo ?_ | refine Vz ?_ | refine Vn ?_)
        refine ret2 (by first | exact .inl rfl | exact .inr rfl) rfl rfl rfl ?_
        exact Ret_mk (by rw [if_neg (fun h => h t3)]) x3
      · have d3 : (!decide ((rou cbS (actL L) r).1 = 0)) = true := by rw [decide_eq_false t3]; rfl
        refine V_yes rfl d3 ?_
        repeat (first | refine Vx ?_ | (apply Ops_q; (case hon => exact Va); (case hd => rfl); (case hq => exact YlA)) | refine Vr ?_ | refine Vt ?_ | refine Vf ?_ | refine Vm ?_ | refine Ve ?_ | refine Vo ?_ | refine Vz ?_ | refine Vn ?_)
        refine ret2 (by first | exact .inl rfl | exact .inr rfl) rfl rfl rfl ?_
        exact Ret_mk (by rw [if_pos t3]) x3
end Go.Proofs.Ytkdjbddjblahkaa

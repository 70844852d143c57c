/-
  Part 5 of the texts that the proofs of this seat share: rules of a walk, contracts of functions, plain facts. Each piece says below what it proves.
  No conditions beyond those that each lemma states.
-/
import Derived.Test.YtjpnaofoeeegeaaB4
import Derived.Lib.BitFns

/-
  Sorting words (slices.Sort at uint64): partition, partitionEqual.
  Conditions: the list is one's own, and not too long for a machine.
-/
namespace Go.Proofs.Ytjpnaofoeeegeaa
open Go.RowKit

theorem V_meetB {P : Program} {N : Fr} {Q : Exit → Env → World → Prop} {m : Env} {w : World} {id : Nat} {x y : Code} {σ : Type} (e : σ → Env) (I : σ → World → Prop)
    (h1 : V P N x (blockV id (thenV (fun m' w' => ∃ s, Sub (e s) m' ∧ I s w') Q)) m w) (h2 : ∀ s w', I s w' → V P N y Q (e s) w') : V P N x (blockV id (thenV (fun m w => V P N y Q m w) Q)) m w := by
  have hm : ∀ ex m1 w1, thenV (fun m' w' => ∃ s, Sub (e s) m' ∧ I s w') Q ex m1 w1 → thenV (fun m w => V P N y Q m w) Q ex m1 w1 := fun ex m1 w1 hq => by
    cases ex with
    | normal => obtain ⟨s, hs, hI⟩ := hq; exact V_sub hs (h2 s w1 hI)
    | _ => exact hq
  refine V_mono (fun ex m1 w1 hq => ?_) h1
  cases ex with
  | exit id' =>
    by_cases c : id' = id
    · subst c; simp only [blockV, if_true] at hq ⊢; exact hm _ _ _ hq
    · simp only [blockV, c, if_false] at hq ⊢; exact hm _ _ _ hq
  | _ => simp only [blockV] at hq ⊢; exact hm _ _ _ hq
section
variable {base g n cap : Nat}
set_option maxHeartbeats 2000000 in
theorem partU_v (L : List Int) (a b p0 : Nat) (w : World) (hD : DatU w base g n cap L) (hn : n ≤ 1000000000000) (hb : b ≤ n) (hab : a < b) (hp0 : a ≤ p0 ∧ p0 < b) :
    Calls Try.prog 118 #[.slice (some ⟨g, 0, none⟩) n cap, .int .i64 a, .int .i64 b, .int .i64 p0] w
      (Does (BlkU g) (DatV base g n cap (fun r L' => ∃ (j : Nat) (o : Bool), r = .tuple #[.int .i64 j, .bool o] ∧ a ≤ j ∧ j < b ∧ Moved L L' a b ∧ Below2 ltU L' a j j b ∧ Below2 ltU L' a (j + 1) (j + 1) b)) w) := by
  obtain ⟨z, hbz⟩ : ∃ z, z + 1 = b := ⟨b - 1, by omega⟩
  have hz : (b : Int) - 1 = (z : Int) := by omega
  have hMl := hD.len
  obtain ⟨x, hx⟩ := hD.get (k := a) (by omega)
  obtain ⟨y, hy⟩ := hD.get (k := p0) (by omega)
  have hcx := hD.at hx
  have hcy := hD.at hy
  have m3 : Mod (BlkU g) w w := .of_ext (Ext.refl _)
  refine V_enter (vs := [_, _, _, _]) Try.func118 rfl Try.ntmps118 (Nat.le_of_ble_eq_true rfl) ?_
  repeat (first | refine Vx ?_ | (apply Ops_q; (case hon => exact Va); (case hd => rfl); (case hq => exact YlA)) | refine Vt ?_ | refine Vf ?_ | refine Vm ?_ | refine Ve ?_ | refine Vo ?_ | refine Vz ?_ | refine Vn ?_)
  refine V_store (R := fun w' => DatU w' base g n cap (L.set (a) y) ∧ Mod (fun c => c = g) w w') 14 13 (fun _ _ he h => ⟨h.1.ext he, h.2.ext he⟩) (by kernel_rfl) rfl (by kernel_rfl) ?_
  repeat (first
    | (refine YsS.pure rfl rfl rfl rfl rfl (fun w_ => (by first | exact Yl_move rfl | exact Yl_pred rfl rfl (by omega) | exact Yl_arith_in rfl rfl rfl (by first | assumption | (simp only [InK]; omega)))) ?_)
    | (refine YsS.load rfl rfl rfl rfl rfl (by first | exact Yl_load rfl hcx | exact Yl_load rfl hcy) ?_))
  refine YsS.pure rfl rfl rfl rfl rfl (fun w_ => Yl_indexS (j := (p0)) rfl rfl (by omega)) ?_
  repeat (first
    | (refine YsS.pure rfl rfl rfl rfl rfl (fun w_ => (by first | exact Yl_move rfl | exact Yl_pred rfl rfl (by omega) | exact Yl_arith_in rfl rfl rfl (by first | assumption | (simp only [InK]; omega)))) ?_)
    | (refine YsS.load rfl rfl rfl rfl rfl (by first | exact Yl_load rfl hcx | exact Yl_load rfl hcy) ?_))
  refine YsS.pure rfl rfl rfl rfl rfl (fun w_ => Yl_indexS (j := (a)) rfl rfl (by omega)) ?_
  repeat (first
    | (refine YsS.pure rfl rfl rfl rfl rfl (fun w_ => (by first | exact Yl_move rfl | exact Yl_pred rfl rfl (by omega) | exact Yl_arith_in rfl rfl rfl (by first | assumption | (simp only [InK]; omega)))) ?_)
    | (refine YsS.load rfl rfl rfl rfl rfl (by first | exact Yl_load rfl hcx | exact Yl_load rfl hcy) ?_))
  refine YsS.pure rfl rfl rfl rfl rfl (fun w_ => Yl_indexS (j := (a)) rfl rfl (by omega)) ?_
  refine YsS.nil rfl ⟨fun a_ ag_ w_ hw_ => storeDatU_run (i := a) (v := y) rfl rfl rfl hD (by omega) a_ ag_ w_ hw_, ?_⟩
  repeat (first
    | (refine YsS.pure rfl rfl rfl rfl rfl (fun w_ => (by first | exact Yl_move rfl | exact Yl_pred rfl rfl (by omega) | exact Yl_arith_in rfl rfl rfl (by first | assumption | (simp only [InK]; omega)))) ?_)
    | (refine YsS.load rfl rfl rfl rfl rfl (by first | exact Yl_load rfl hcx | exact Yl_load rfl hcy) ?_))
  refine YsS.nil rfl ?_
  rintro w4 ⟨D4, m4⟩
  repeat (first | refine Vx ?_ | (apply Ops_q; (case hon => exact Va); (case hd => rfl); (case hq => exact YlA)) | refine Vr ?_ | refine Vt ?_ | refine Vf ?_ | refine Vm ?_ | refine Ve ?_ | refine Vo ?_ | refine Vz ?_ | refine Vn ?_)
  (apply Ops_q; (case hon => (exact Va)); (case hd => rfl); (case hq => exact Yl_indexS (j := (p0)) rfl rfl (by omega)))
  repeat (first | refine Vx ?_ | (apply Ops_q; (case hon => exact Va); (case hd => rfl); (case hq => exact YlA)) | refine Vr ?_ | refine Vt ?_ | refine Vf ?_ | refine Vm ?_ | refine Ve ?_ | refine Vo ?_ | refine Vz ?_ | refine Vn ?_)
  refine Ops_storeDatU (i := p0) (v := x) (by exact Va) rfl rfl rfl D4 (by omega) ?_
  intro w5 D5 g5
  have m5 : Mod (BlkU g) w w5 := (m3.trans m4).grow g5 (fun b hb => .inl (by cases hb; rfl))
  have hsw : (L.set (a) y).set (p0) x = swp L (a) (p0) := by unfold swp; rw [hx, hy]
  rw [hsw] at D5
  have hM : Moved L (swp L a p0) a b := Moved.swp (by omega) hp0 (by omega)
  have hpv : (swp L a p0)[a]? = some y := by
    rw [swp_get (by omega) (by omega)]
    by_cases e : a = p0
    · rw [if_pos e, e]; exact hy
    · rw [if_neg e, if_pos rfl]; exact hy
  generalize swp L a p0 = M at *
  clear hx hy hcx hcy D4 m4 g5 hsw m3 hD hMl
  have hMl := D5.len
  repeat (first | refine Vx ?_ | (apply Ops_q; (case hon => exact Va); (case hd => rfl); (case hq => exact YlA)) | refine Vr ?_ | refine Vt ?_ | refine Vf ?_ | refine Vm ?_ | refine Ve ?_ | refine Vo ?_ | refine Vz ?_ | refine Vn ?_)
  obtain ⟨pv, hpve⟩ : ∃ pv, pv = y := ⟨_, rfl⟩
  rw [← hpve] at hpv
  clear hpve hp0
  have hP : PtS (fun x => ltU x pv < 0) (fun x => ¬ltU x pv < 0) M a (a + 1) z b := .start hbz
  obtain ⟨i, hi⟩ : ∃ i, i = a + 1 := ⟨_, rfl⟩
  obtain ⟨j, hj⟩ : ∃ j, j = z := ⟨_, rfl⟩
  have hjb : j < b := by omega
  rw [← hi, ← hj] at hP
  have h1 : a + 1 ≤ i := by omega
  have h2 : i ≤ j + 1 := by omega
  rw [show (a : Int) + 1 = (i : Int) by omega, show (b : Int) - 1 = (j : Int) by omega]
  clear hi hj hz
  obtain ⟨w3, rfl⟩ : ∃ w3, w3 = w5 := ⟨_, rfl⟩
  have D3 := D5
  have m3 := m5
  clear D5 m5
  refine V_meetB (fun s : Nat => [(10, .int .i64 s), (11, .int .i64 j), (0, .slice (some ⟨g, 0, none⟩) n cap), (1, .int .i64 a)])
    (fun s w' => Ext w3 w' ∧ i ≤ s ∧ s ≤ j + 1 ∧ PtS (fun x => ltU x pv < 0) (fun x => ¬ltU x pv < 0) M a s j b ∧ ∀ x, s ≤ j → M[s]? = some x → ¬ltU x pv < 0) ?_ ?_
  · refine V_loop (fun s : Nat => [(10, .int .i64 s), (11, .int .i64 j), (0, .slice (some ⟨g, 0, none⟩) n cap), (1, .int .i64 a)])
      (fun s w' => Ext w3 w' ∧ i ≤ s ∧ s ≤ j + 1 ∧ PtS (fun x => ltU x pv < 0) (fun x => ¬ltU x pv < 0) M a s j b) (fun s => j + 1 - s) i (by repeat (first | exact trivial | refine ⟨rfl, ?_⟩)) ⟨Ext.refl _, Nat.le_refl _, h2, hP⟩ ?_
    rintro s w4 ⟨x4, h4, h5, hP4⟩
    have D4 := D3.ext x4
    by_cases hsj : s ≤ j
    · have hd : decide ((s : Int) ≤ (j : Int)) = true := decide_eq_true (by omega)
      obtain ⟨x, hx⟩ := D4.get (k := s) (by omega)
      have hcx := D4.at hx
      have hcp := D4.at hpv
      repeat (first | refine Vx ?_ | (apply Ops_q; (case hon => exact Va); (case hd => rfl); (case hq => exact YlA)) | refine Vr ?_ | refine Vt ?_ | refine Vf ?_ | refine Vm ?_ | refine Ve ?_ | refine Vo ?_ | refine Vz ?_ | refine Vn ?_)
      refine Ops_know rfl rfl hd ?_
      repeat (first | refine Vx ?_ | (apply Ops_q; (case hon => exact Va); (case hd => rfl); (case hq => exact YlA)) | refine Vr ?_ | refine Vt ?_ | refine Vf ?_ | refine Vm ?_ | refine Ve ?_ | refine Vo ?_ | refine Vz ?_ | refine Vn ?_)
      (apply Ops_q; (case hon => (exact Va)); (case hd => rfl); (case hq => exact Yl_indexS (j := s) rfl rfl (by omega)))
      repeat (first | refine Vx ?_ | (apply Ops_q; (case hon => exact Va); (case hd => rfl); (case hq => exact YlA)) | refine Vr ?_ | refine Vt ?_ | refine Vf ?_ | refine Vm ?_ | refine Ve ?_ | refine Vo ?_ | refine Vz ?_ | refine Vn ?_)
      (apply Ops_q; (case hon => (exact Va)); (case hd => rfl); (case hq => exact Yl_indexS (j := a) rfl rfl (by omega)))
      repeat (first | refine Vx ?_ | (apply Ops_q; (case hon => exact Va); (case hd => rfl); (case hq => exact YlA)) | refine Vr ?_ | refine Vt ?_ | refine Vf ?_ | refine Vm ?_ | refine Ve ?_ | refine Vo ?_ | refine Vz ?_ | refine Vn ?_)
      (apply Ops_q; (case hon => (exact Va)); (case hd => rfl); (case hq => exact Yl_call rfl (fun w_ e_ => lessU_v x pv w_)))
      repeat (first | refine Vx ?_ | (apply Ops_q; (case hon => exact Va); (case hd => rfl); (case hq => exact YlA)) | refine Vr ?_ | refine Vt ?_ | refine Vf ?_ | refine Vm ?_ | refine Ve ?_ | refine Vo ?_ | refine Vz ?_ | refine Vn ?_)
      refine V_cond rfl (fun hlt => ?_) (fun hlt => ?_)
      · repeat (first | refine Vx ?_ | (apply Ops_q; (case hon => exact Va); (case hd => rfl); (case hq => exact YlA)) | refine Vr ?_ | refine Vt ?_ | refine Vf ?_ | refine Vm ?_ | refine Ve ?_ | refine Vo ?_ | refine Vz ?_ | refine Vn ?_)
        exact ⟨s + 1, (by repeat (first | exact trivial | refine ⟨rfl, ?_⟩)), ⟨x4, by omega, by omega, hP4.inc hx (by have h := hlt; simp at h; simp only [ltU]; omega)⟩, by omega⟩
      · repeat (first | refine Vx ?_ | (apply Ops_q; (case hon => exact Va); (case hd => rfl); (case hq => exact YlA)) | refine Vr ?_ | refine Vt ?_ | refine Vf ?_ | refine Vm ?_ | refine Ve ?_ | refine Vo ?_ | refine Vz ?_ | refine Vn ?_)
        exact ⟨s, (by repeat (first | exact trivial | refine ⟨rfl, ?_⟩)), x4, h4, h5, hP4, fun z _ hz => by rw [hx] at hz; cases hz; have h := hlt; simp at h; simp only [ltU]; omega⟩
    · have hd : decide ((s : Int) ≤ (j : Int)) = false := decide_eq_false (by omega)
      repeat (first | refine Vx ?_ | (apply Ops_q; (case hon => exact Va); (case hd => rfl); (case hq => exact YlA)) | refine Vr ?_ | refine Vt ?_ | refine Vf ?_ | refine Vm ?_ | refine Ve ?_ | refine Vo ?_ | refine Vz ?_ | refine Vn ?_)
      refine Ops_know rfl rfl hd ?_
      repeat (first | refine Vx ?_ | (apply Ops_q; (case hon => exact Va); (case hd => rfl); (case hq => exact YlA)) | refine Vr ?_ | refine Vt ?_ | refine Vf ?_ | refine Vm ?_ | refine Ve ?_ | refine Vo ?_ | refine Vz ?_ | refine Vn ?_)
      exact ⟨s, (by repeat (first | exact trivial | refine ⟨rfl, ?_⟩)), x4, h4, h5, hP4, fun z h => absurd h hsj⟩
  clear h2 hP
  rintro i w3 ⟨x3, hii, h2, hP, hup⟩
  have D3 := D3.ext x3
  have m3 := m3.ext x3
  replace h1 : a + 1 ≤ i := by omega
  clear x3
  refine V_seq ?_
  refine V_block ?_
  refine V_meetB (fun s : Nat => [(10, .int .i64 i), (11, .int .i64 s), (0, .slice (some ⟨g, 0, none⟩) n cap), (1, .int .i64 a)])
    (fun s w' => Ext w3 w' ∧ i ≤ s + 1 ∧ s ≤ j ∧ PtS (fun x => ltU x pv < 0) (fun x => ¬ltU x pv < 0) M a i s b ∧ ∀ x, i ≤ s → M[s]? = some x → ltU x pv < 0) ?_ ?_
  · refine V_loop (fun s : Nat => [(10, .int .i64 i), (11, .int .i64 s), (0, .slice (some ⟨g, 0, none⟩) n cap), (1, .int .i64 a)])
      (fun s w' => Ext w3 w' ∧ i ≤ s + 1 ∧ s ≤ j ∧ PtS (fun x => ltU x pv < 0) (fun x => ¬ltU x pv < 0) M a i s b) (fun s => s) j (by repeat (first | exact trivial | refine ⟨rfl, ?_⟩)) ⟨Ext.refl _, h2, Nat.le_refl _, hP⟩ ?_
    rintro s w4 ⟨x4, h4, h5, hP4⟩
    have D4 := D3.ext x4
    by_cases hsj : i ≤ s
    · obtain ⟨p, rfl⟩ : ∃ p, s = p + 1 := ⟨s - 1, by omega⟩
      have hs1 : ((p + 1 : Nat) : Int) - 1 = (p : Int) := by omega
      have hd : decide ((i : Int) ≤ ((p + 1 : Nat) : Int)) = true := decide_eq_true (by omega)
      obtain ⟨x, hx⟩ := D4.get (k := p + 1) (by omega)
      have hcx := D4.at hx
      have hcp := D4.at hpv
      repeat (first | refine Vx ?_ | (apply Ops_q; (case hon => exact Va); (case hd => rfl); (case hq => exact YlA)) | refine Vr ?_ | refine Vt ?_ | refine Vf ?_ | refine Vm ?_ | refine Ve ?_ | refine Vo ?_ | refine Vz ?_ | refine Vn ?_)
      refine Ops_know rfl rfl hd ?_
      repeat (first | refine Vx ?_ | (apply Ops_q; (case hon => exact Va); (case hd => rfl); (case hq => exact YlA)) | refine Vr ?_ | refine Vt ?_ | refine Vf ?_ | refine Vm ?_ | refine Ve ?_ | refine Vo ?_ | refine Vz ?_ | refine Vn ?_)
      (apply Ops_q; (case hon => (exact Va)); (case hd => rfl); (case hq => exact Yl_indexS (j := (p+1)) rfl rfl (by omega)))
      repeat (first | refine Vx ?_ | (apply Ops_q; (case hon => exact Va); (case hd => rfl); (case hq => exact YlA)) | refine Vr ?_ | refine Vt ?_ | refine Vf ?_ | refine Vm ?_ | refine Ve ?_ | refine Vo ?_ | refine Vz ?_ | refine Vn ?_)
      (apply Ops_q; (case hon => (exact Va)); (case hd => rfl); (case hq => exact Yl_indexS (j := a) rfl rfl (by omega)))
      repeat (first | refine Vx ?_ | (apply Ops_q; (case hon => exact Va); (case hd => rfl); (case hq => exact YlA)) | refine Vr ?_ | refine Vt ?_ | refine Vf ?_ | refine Vm ?_ | refine Ve ?_ | refine Vo ?_ | refine Vz ?_ | refine Vn ?_)
      (apply Ops_q; (case hon => (exact Va)); (case hd => rfl); (case hq => exact Yl_call rfl (fun w_ e_ => lessU_v x pv w_)))
      repeat (first | refine Vx ?_ | (apply Ops_q; (case hon => exact Va); (case hd => rfl); (case hq => exact YlA)) | refine Vr ?_ | refine Vt ?_ | refine Vf ?_ | refine Vm ?_ | refine Ve ?_ | refine Vo ?_ | refine Vz ?_ | refine Vn ?_)
      refine V_cond rfl (fun hlt => ?_) (fun hlt => ?_)
      · repeat (first | refine Vx ?_ | (apply Ops_q; (case hon => exact Va); (case hd => rfl); (case hq => exact YlA)) | refine Vr ?_ | refine Vt ?_ | refine Vf ?_ | refine Vm ?_ | refine Ve ?_ | refine Vo ?_ | refine Vz ?_ | refine Vn ?_)
        rw [hs1]
        exact ⟨p, (by repeat (first | exact trivial | refine ⟨rfl, ?_⟩)), ⟨x4, hsj, by omega, hP4.dec hx (by have h := hlt; simp at h; simp only [ltU]; omega)⟩, by omega⟩
      · repeat (first | refine Vx ?_ | (apply Ops_q; (case hon => exact Va); (case hd => rfl); (case hq => exact YlA)) | refine Vr ?_ | refine Vt ?_ | refine Vf ?_ | refine Vm ?_ | refine Ve ?_ | refine Vo ?_ | refine Vz ?_ | refine Vn ?_)
        exact ⟨p + 1, (by repeat (first | exact trivial | refine ⟨rfl, ?_⟩)), x4, h4, h5, hP4, fun z _ hz => by rw [hx] at hz; cases hz; have h := hlt; simp at h; simp only [ltU]; omega⟩
    · have hd : decide ((i : Int) ≤ (s : Int)) = false := decide_eq_false (by omega)
      repeat (first | refine Vx ?_ | (apply Ops_q; (case hon => exact Va); (case hd => rfl); (case hq => exact YlA)) | refine Vr ?_ | refine Vt ?_ | refine Vf ?_ | refine Vm ?_ | refine Ve ?_ | refine Vo ?_ | refine Vz ?_ | refine Vn ?_)
      refine Ops_know rfl rfl hd ?_
      repeat (first | refine Vx ?_ | (apply Ops_q; (case hon => exact Va); (case hd => rfl); (case hq => exact YlA)) | refine Vr ?_ | refine Vt ?_ | refine Vf ?_ | refine Vm ?_ | refine Ve ?_ | refine Vo ?_ | refine Vz ?_ | refine Vn ?_)
      exact ⟨s, (by repeat (first | exact trivial | refine ⟨rfl, ?_⟩)), x4, h4, h5, hP4, fun z h => absurd h hsj⟩
  clear h2 hP
  rintro j w3 ⟨x3, h2, hjj, hP, hdown⟩
  have D3 := D3.ext x3
  have m3 := m3.ext x3
  replace hjb : j < b := by omega
  replace hup : ∀ x, i ≤ j → M[i]? = some x → ¬ltU x pv < 0 := fun x h => hup x (by omega)
  clear x3
  repeat (first | refine Vx ?_ | (apply Ops_q; (case hon => exact Va); (case hd => rfl); (case hq => exact YlA)) | refine Vr ?_ | refine Vt ?_ | refine Vf ?_ | refine Vm ?_ | refine Ve ?_ | refine Vo ?_ | refine Vz ?_ | refine Vn ?_)
  refine V_cond rfl (fun hg => ?_) (fun hg => ?_)
  · replace hg := of_decide_eq_true hg
    obtain rfl : i = j + 1 := by omega
    have hMl := D3.len
    obtain ⟨x, hx⟩ := D3.get (k := j) (by omega)
    obtain ⟨y, hy⟩ := D3.get (k := a) (by omega)
    have hcx := D3.at hx
    have hcy := D3.at hy
    repeat (first | refine Vx ?_ | (apply Ops_q; (case hon => exact Va); (case hd => rfl); (case hq => exact YlA)) | refine Vt ?_ | refine Vf ?_ | refine Vm ?_ | refine Ve ?_ | refine Vo ?_ | refine Vz ?_ | refine Vn ?_)
    refine V_store (R := fun w' => DatU w' base g n cap (M.set (j) y) ∧ Mod (fun c => c = g) w3 w') 14 13 (fun _ _ he h => ⟨h.1.ext he, h.2.ext he⟩) (by kernel_rfl) rfl (by kernel_rfl) ?_
    repeat (first
      | (refine YsS.pure rfl rfl rfl rfl rfl (fun w_ => (by first | exact Yl_move rfl | exact Yl_pred rfl rfl (by omega) | exact Yl_arith_in rfl rfl rfl (by first | assumption | (simp only [InK]; omega)))) ?_)
      | (refine YsS.load rfl rfl rfl rfl rfl (by first | exact Yl_load rfl hcx | exact Yl_load rfl hcy) ?_))
    refine YsS.pure rfl rfl rfl rfl rfl (fun w_ => Yl_indexS (j := (a)) rfl rfl (by omega)) ?_
    repeat (first
      | (refine YsS.pure rfl rfl rfl rfl rfl (fun w_ => (by first | exact Yl_move rfl | exact Yl_pred rfl rfl (by omega) | exact Yl_arith_in rfl rfl rfl (by first | assumption | (simp only [InK]; omega)))) ?_)
      | (refine YsS.load rfl rfl rfl rfl rfl (by first | exact Yl_load rfl hcx | exact Yl_load rfl hcy) ?_))
    refine YsS.pure rfl rfl rfl rfl rfl (fun w_ => Yl_indexS (j := (j)) rfl rfl (by omega)) ?_
    repeat (first
      | (refine YsS.pure rfl rfl rfl rfl rfl (fun w_ => (by first | exact Yl_move rfl | exact Yl_pred rfl rfl (by omega) | exact Yl_arith_in rfl rfl rfl (by first | assumption | (simp only [InK]; omega)))) ?_)
      | (refine YsS.load rfl rfl rfl rfl rfl (by first | exact Yl_load rfl hcx | exact Yl_load rfl hcy) ?_))
    refine YsS.pure rfl rfl rfl rfl rfl (fun w_ => Yl_indexS (j := (j)) rfl rfl (by omega)) ?_
    refine YsS.nil rfl ⟨fun a_ ag_ w_ hw_ => storeDatU_run (i := j) (v := y) rfl rfl rfl D3 (by omega) a_ ag_ w_ hw_, ?_⟩
    repeat (first
      | (refine YsS.pure rfl rfl rfl rfl rfl (fun w_ => (by first | exact Yl_move rfl | exact Yl_pred rfl rfl (by omega) | exact Yl_arith_in rfl rfl rfl (by first | assumption | (simp only [InK]; omega)))) ?_)
      | (refine YsS.load rfl rfl rfl rfl rfl (by first | exact Yl_load rfl hcx | exact Yl_load rfl hcy) ?_))
    refine YsS.nil rfl ?_
    rintro w4 ⟨D4, m4⟩
    repeat (first | refine Vx ?_ | (apply Ops_q; (case hon => exact Va); (case hd => rfl); (case hq => exact YlA)) | refine Vr ?_ | refine Vt ?_ | refine Vf ?_ | refine Vm ?_ | refine Ve ?_ | refine Vo ?_ | refine Vz ?_ | refine Vn ?_)
    (apply Ops_q; (case hon => (exact Va)); (case hd => rfl); (case hq => exact Yl_indexS (j := (a)) rfl rfl (by omega)))
    repeat (first | refine Vx ?_ | (apply Ops_q; (case hon => exact Va); (case hd => rfl); (case hq => exact YlA)) | refine Vr ?_ | refine Vt ?_ | refine Vf ?_ | refine Vm ?_ | refine Ve ?_ | refine Vo ?_ | refine Vz ?_ | refine Vn ?_)
    refine Ops_storeDatU (i := a) (v := x) (by exact Va) rfl rfl rfl D4 (by omega) ?_
    intro w5 D5 g5
    have m5 : Mod (BlkU g) w w5 := (m3.trans m4).grow g5 (fun b hb => .inl (by cases hb; rfl))
    have hsw : (M.set (j) y).set (a) x = swp M (j) (a) := by unfold swp; rw [hx, hy]
    rw [hsw] at D5
    have hM5 : Moved L (swp M j a) a b := hM.trans (Moved.swp (by omega) (by omega) (by omega))
    obtain ⟨q1, q2⟩ := part_end ordU hP hpv (by omega) (by omega)
    repeat (first | refine Vx ?_ | (apply Ops_q; (case hon => exact Va); (case hd => rfl); (case hq => exact YlA)) | refine Vr ?_ | refine Vt ?_ | refine Vf ?_ | refine Vm ?_ | refine Ve ?_ | refine Vo ?_ | refine Vz ?_ | refine Vn ?_)
    refine ret2 (by first | exact .inl rfl | exact .inr rfl) rfl rfl rfl ?_
    exact Does_mk (fun w' he => ⟨_, D5.ext he, ⟨j, _, rfl, by omega, hjb, hM5, q1, q2⟩⟩) m5
  replace hg := of_decide_eq_false hg
  have hMl := D3.len
  obtain ⟨p, rfl⟩ : ∃ p, j = p + 1 := ⟨j - 1, by omega⟩
  have hs1 : ((p + 1 : Nat) : Int) - 1 = (p : Int) := by omega
  obtain ⟨x, hx⟩ := D3.get (k := i) (by omega)
  obtain ⟨y, hy⟩ := D3.get (k := p + 1) (by omega)
  have hcx := D3.at hx
  have hcy := D3.at hy
  have hQx := hup x (by omega) hx
  have hPy := hdown y (by omega) hy
  have hij : i < p + 1 := by
    rcases Nat.lt_or_ge i (p + 1) with h | h
    · exact h
    · obtain rfl : i = p + 1 := by omega
      rw [hx] at hy; cases hy
      simp only [ltU] at hQx hPy; omega
  repeat (first | refine Vx ?_ | (apply Ops_q; (case hon => exact Va); (case hd => rfl); (case hq => exact YlA)) | refine Vt ?_ | refine Vf ?_ | refine Vm ?_ | refine Ve ?_ | refine Vo ?_ | refine Vz ?_ | refine Vn ?_)
  refine V_store (R := fun w' => DatU w' base g n cap (M.set (i) y) ∧ Mod (fun c => c = g) w3 w') 14 13 (fun _ _ he h => ⟨h.1.ext he, h.2.ext he⟩) (by kernel_rfl) rfl (by kernel_rfl) ?_
  repeat (first
    | (refine YsS.pure rfl rfl rfl rfl rfl (fun w_ => (by first | exact Yl_move rfl | exact Yl_pred rfl rfl (by omega) | exact Yl_arith_in rfl rfl rfl (by first | assumption | (simp only [InK]; omega)))) ?_)
    | (refine YsS.load rfl rfl rfl rfl rfl (by first | exact Yl_load rfl hcx | exact Yl_load rfl hcy) ?_))
  refine YsS.pure rfl rfl rfl rfl rfl (fun w_ => Yl_indexS (j := (p+1)) rfl rfl (by omega)) ?_
  repeat (first
    | (refine YsS.pure rfl rfl rfl rfl rfl (fun w_ => (by first | exact Yl_move rfl | exact Yl_pred rfl rfl (by omega) | exact Yl_arith_in rfl rfl rfl (by first | assumption | (simp only [InK]; omega)))) ?_)
    | (refine YsS.load rfl rfl rfl rfl rfl (by first | exact Yl_load rfl hcx | exact Yl_load rfl hcy) ?_))
  refine YsS.pure rfl rfl rfl rfl rfl (fun w_ => Yl_indexS (j := (i)) rfl rfl (by omega)) ?_
  repeat (first
    | (refine YsS.pure rfl rfl rfl rfl rfl (fun w_ => (by first | exact Yl_move rfl | exact Yl_pred rfl rfl (by omega) | exact Yl_arith_in rfl rfl rfl (by first | assumption | (simp only [InK]; omega)))) ?_)
    | (refine YsS.load rfl rfl rfl rfl rfl (by first | exact Yl_load rfl hcx | exact Yl_load rfl hcy) ?_))
  refine YsS.pure rfl rfl rfl rfl rfl (fun w_ => Yl_indexS (j := (i)) rfl rfl (by omega)) ?_
  refine YsS.nil rfl ⟨fun a_ ag_ w_ hw_ => storeDatU_run (i := i) (v := y) rfl rfl rfl D3 (by omega) a_ ag_ w_ hw_, ?_⟩
  repeat (first
    | (refine YsS.pure rfl rfl rfl rfl rfl (fun w_ => (by first | exact Yl_move rfl | exact Yl_pred rfl rfl (by omega) | exact Yl_arith_in rfl rfl rfl (by first | assumption | (simp only [InK]; omega)))) ?_)
    | (refine YsS.load rfl rfl rfl rfl rfl (by first | exact Yl_load rfl hcx | exact Yl_load rfl hcy) ?_))
  refine YsS.nil rfl ?_
  rintro w4 ⟨D4, m4⟩
  repeat (first | refine Vx ?_ | (apply Ops_q; (case hon => exact Va); (case hd => rfl); (case hq => exact YlA)) | refine Vr ?_ | refine Vt ?_ | refine Vf ?_ | refine Vm ?_ | refine Ve ?_ | refine Vo ?_ | refine Vz ?_ | refine Vn ?_)
  (apply Ops_q; (case hon => (exact Va)); (case hd => rfl); (case hq => exact Yl_indexS (j := (p+1)) rfl rfl (by omega)))
  repeat (first | refine Vx ?_ | (apply Ops_q; (case hon => exact Va); (case hd => rfl); (case hq => exact YlA)) | refine Vr ?_ | refine Vt ?_ | refine Vf ?_ | refine Vm ?_ | refine Ve ?_ | refine Vo ?_ | refine Vz ?_ | refine Vn ?_)
  refine Ops_storeDatU (i := p+1) (v := x) (by exact Va) rfl rfl rfl D4 (by omega) ?_
  intro w5 D5 g5
  have m5 : Mod (BlkU g) w w5 := (m3.trans m4).grow g5 (fun b hb => .inl (by cases hb; rfl))
  have hsw : (M.set (i) y).set (p+1) x = swp M (i) (p+1) := by unfold swp; rw [hx, hy]
  rw [hsw] at D5
  repeat (first | refine Vx ?_ | (apply Ops_q; (case hon => exact Va); (case hd => rfl); (case hq => exact YlA)) | refine Vr ?_ | refine Vt ?_ | refine Vf ?_ | refine Vm ?_ | refine Ve ?_ | refine Vo ?_ | refine Vz ?_ | refine Vn ?_)
  rw [hs1]
  have hP5 := hP.swap hij (by omega) hx hy hQx hPy
  have hM5 : Moved L (swp M i (p + 1)) a b := hM.trans (Moved.swp (by omega) (by omega) (by omega))
  have hpv5 : (swp M i (p + 1))[a]? = some pv := by rw [swp_get (by omega) (by omega), if_neg (by omega), if_neg (by omega)]; exact hpv
  have h1' : a + 1 ≤ i + 1 := by omega
  have h2' : i + 1 ≤ p + 1 := by omega
  have hjb' : p < b := by omega
  clear hx hy hcx hcy D3 m3 D4 m4 g5 hsw hM hMl hP hup hdown hQx hPy hpv h1 h2 hjb hg hs1 hij
  refine V_loop (fun s : Nat × Nat × List Int => [(10, .int .i64 s.1), (11, .int .i64 s.2.1), (0, .slice (some ⟨g, 0, none⟩) n cap), (1, .int .i64 a)])
    (fun s w' => a + 1 ≤ s.1 ∧ s.1 ≤ s.2.1 + 1 ∧ s.2.1 < b ∧ Mod (BlkU g) w w' ∧ DatU w' base g n cap s.2.2 ∧ Moved L s.2.2 a b ∧ s.2.2[a]? = some pv ∧ PtS (fun x => ltU x pv < 0) (fun x => ¬ltU x pv < 0) s.2.2 a s.1 s.2.1 b) (fun s => s.2.1 + 1 - s.1) (i + 1, p, swp M i (p + 1)) (by repeat (first | exact trivial | refine ⟨rfl, ?_⟩))
    ⟨h1', h2', hjb', m5, D5, hM5, hpv5, hP5⟩ ?_
  clear h1' h2' hjb' m5 D5 hM5 hpv5 hP5
  rintro ⟨i, j, M⟩ w3 ⟨h1, h2, hjb, m3, D3, hM, hpv, hP⟩
  dsimp only at h1 h2 hjb D3 hM hpv hP ⊢
  (repeat (first | refine V_seq ?_ | refine V_block ?_))
  refine V_meetB (fun s : Nat => [(10, .int .i64 s), (11, .int .i64 j), (0, .slice (some ⟨g, 0, none⟩) n cap), (1, .int .i64 a)])
    (fun s w' => Ext w3 w' ∧ i ≤ s ∧ s ≤ j + 1 ∧ PtS (fun x => ltU x pv < 0) (fun x => ¬ltU x pv < 0) M a s j b ∧ ∀ x, s ≤ j → M[s]? = some x → ¬ltU x pv < 0) ?_ ?_
  · refine V_loop (fun s : Nat => [(10, .int .i64 s), (11, .int .i64 j), (0, .slice (some ⟨g, 0, none⟩) n cap), (1, .int .i64 a)])
      (fun s w' => Ext w3 w' ∧ i ≤ s ∧ s ≤ j + 1 ∧ PtS (fun x => ltU x pv < 0) (fun x => ¬ltU x pv < 0) M a s j b) (fun s => j + 1 - s) i (by repeat (first | exact trivial | refine ⟨rfl, ?_⟩)) ⟨Ext.refl _, Nat.le_refl _, h2, hP⟩ ?_
    rintro s w4 ⟨x4, h4, h5, hP4⟩
    have D4 := D3.ext x4
    by_cases hsj : s ≤ j
    · have hd : decide ((s : Int) ≤ (j : Int)) = true := decide_eq_true (by omega)
      obtain ⟨x, hx⟩ := D4.get (k := s) (by omega)
      have hcx := D4.at hx
      have hcp := D4.at hpv
      repeat (first | refine Vx ?_ | (apply Ops_q; (case hon => exact Va); (case hd => rfl); (case hq => exact YlA)) | refine Vr ?_ | refine Vt ?_ | refine Vf ?_ | refine Vm ?_ | refine Ve ?_ | refine Vo ?_ | refine Vz ?_ | refine Vn ?_)
      refine Ops_know rfl rfl hd ?_
      repeat (first | refine Vx ?_ | (apply Ops_q; (case hon => exact Va); (case hd => rfl); (case hq => exact YlA)) | refine Vr ?_ | refine Vt ?_ | refine Vf ?_ | refine Vm ?_ | refine Ve ?_ | refine Vo ?_ | refine Vz ?_ | refine Vn ?_)
      (apply Ops_q; (case hon => (exact Va)); (case hd => rfl); (case hq => exact Yl_indexS (j := s) rfl rfl (by omega)))
      repeat (first | refine Vx ?_ | (apply Ops_q; (case hon => exact Va); (case hd => rfl); (case hq => exact YlA)) | refine Vr ?_ | refine Vt ?_ | refine Vf ?_ | refine Vm ?_ | refine Ve ?_ | refine Vo ?_ | refine Vz ?_ | refine Vn ?_)
      (apply Ops_q; (case hon => (exact Va)); (case hd => rfl); (case hq => exact Yl_indexS (j := a) rfl rfl (by omega)))
      repeat (first | refine Vx ?_ | (apply Ops_q; (case hon => exact Va); (case hd => rfl); (case hq => exact YlA)) | refine Vr ?_ | refine Vt ?_ | refine Vf ?_ | refine Vm ?_ | refine Ve ?_ | refine Vo ?_ | refine Vz ?_ | refine Vn ?_)
      (apply Ops_q; (case hon => (exact Va)); (case hd => rfl); (case hq => exact Yl_call rfl (fun w_ e_ => lessU_v x pv w_)))
      repeat (first | refine Vx ?_ | (apply Ops_q; (case hon => exact Va); (case hd => rfl); (case hq => exact YlA)) | refine Vr ?_ | refine Vt ?_ | refine Vf ?_ | refine Vm ?_ | refine Ve ?_ | refine Vo ?_ | refine Vz ?_ | refine Vn ?_)
      refine V_cond rfl (fun hlt => ?_) (fun hlt => ?_)
      · repeat (first | refine Vx ?_ | (apply Ops_q; (case hon => exact Va); (case hd => rfl); (case hq => exact YlA)) | refine Vr ?_ | refine Vt ?_ | refine Vf ?_ | refine Vm ?_ | refine Ve ?_ | refine Vo ?_ | refine Vz ?_ | refine Vn ?_)
        exact ⟨s + 1, (by repeat (first | exact trivial | refine ⟨rfl, ?_⟩)), ⟨x4, by omega, by omega, hP4.inc hx (by have h := hlt; simp at h; simp only [ltU]; omega)⟩, by omega⟩
      · repeat (first | refine Vx ?_ | (apply Ops_q; (case hon => exact Va); (case hd => rfl); (case hq => exact YlA)) | refine Vr ?_ | refine Vt ?_ | refine Vf ?_ | refine Vm ?_ | refine Ve ?_ | refine Vo ?_ | refine Vz ?_ | refine Vn ?_)
        exact ⟨s, (by repeat (first | exact trivial | refine ⟨rfl, ?_⟩)), x4, h4, h5, hP4, fun z _ hz => by rw [hx] at hz; cases hz; have h := hlt; simp at h; simp only [ltU]; omega⟩
    · have hd : decide ((s : Int) ≤ (j : Int)) = false := decide_eq_false (by omega)
      repeat (first | refine Vx ?_ | (apply Ops_q; (case hon => exact Va); (case hd => rfl); (case hq => exact YlA)) | refine Vr ?_ | refine Vt ?_ | refine Vf ?_ | refine Vm ?_ | refine Ve ?_ | refine Vo ?_ | refine Vz ?_ | refine Vn ?_)
      refine Ops_know rfl rfl hd ?_
      repeat (first | refine Vx ?_ | (apply Ops_q; (case hon => exact Va); (case hd => rfl); (case hq => exact YlA)) | refine Vr ?_ | refine Vt ?_ | refine Vf ?_ | refine Vm ?_ | refine Ve ?_ | refine Vo ?_ | refine Vz ?_ | refine Vn ?_)
      exact ⟨s, (by repeat (first | exact trivial | refine ⟨rfl, ?_⟩)), x4, h4, h5, hP4, fun z h => absurd h hsj⟩
  clear h2 hP
  rintro i w3 ⟨x3, hii, h2, hP, hup⟩
  have D3 := D3.ext x3
  have m3 := m3.ext x3
  replace h1 : a + 1 ≤ i := by omega
  clear x3
  refine V_seq ?_
  refine V_block ?_
  refine V_meetB (fun s : Nat => [(10, .int .i64 i), (11, .int .i64 s), (0, .slice (some ⟨g, 0, none⟩) n cap), (1, .int .i64 a)])
    (fun s w' => Ext w3 w' ∧ i ≤ s + 1 ∧ s ≤ j ∧ PtS (fun x => ltU x pv < 0) (fun x => ¬ltU x pv < 0) M a i s b ∧ ∀ x, i ≤ s → M[s]? = some x → ltU x pv < 0) ?_ ?_
  · refine V_loop (fun s : Nat => [(10, .int .i64 i), (11, .int .i64 s), (0, .slice (some ⟨g, 0, none⟩) n cap), (1, .int .i64 a)])
      (fun s w' => Ext w3 w' ∧ i ≤ s + 1 ∧ s ≤ j ∧ PtS (fun x => ltU x pv < 0) (fun x => ¬ltU x pv < 0) M a i s b) (fun s => s) j (by repeat (first | exact trivial | refine ⟨rfl, ?_⟩)) ⟨Ext.refl _, h2, Nat.le_refl _, hP⟩ ?_
    rintro s w4 ⟨x4, h4, h5, hP4⟩
    have D4 := D3.ext x4
    by_cases hsj : i ≤ s
    · obtain ⟨p, rfl⟩ : ∃ p, s = p + 1 := ⟨s - 1, by omega⟩
      have hs1 : ((p + 1 : Nat) : Int) - 1 = (p : Int) := by omega
      have hd : decide ((i : Int) ≤ ((p + 1 : Nat) : Int)) = true := decide_eq_true (by omega)
      obtain ⟨x, hx⟩ := D4.get (k := p + 1) (by omega)
      have hcx := D4.at hx
      have hcp := D4.at hpv
      repeat (first | refine Vx ?_ | (apply Ops_q; (case hon => exact Va); (case hd => rfl); (case hq => exact YlA)) | refine Vr ?_ | refine Vt ?_ | refine Vf ?_ | refine Vm ?_ | refine Ve ?_ | refine Vo ?_ | refine Vz ?_ | refine Vn ?_)
      refine Ops_know rfl rfl hd ?_
      repeat (first | refine Vx ?_ | (apply Ops_q; (case hon => exact Va); (case hd => rfl); (case hq => exact YlA)) | refine Vr ?_ | refine Vt ?_ | refine Vf ?_ | refine Vm ?_ | refine Ve ?_ | refine Vo ?_ | refine Vz ?_ | refine Vn ?_)
      (apply Ops_q; (case hon => (exact Va)); (case hd => rfl); (case hq => exact Yl_indexS (j := (p+1)) rfl rfl (by omega)))
      repeat (first | refine Vx ?_ | (apply Ops_q; (case hon => exact Va); (case hd => rfl); (case hq => exact YlA)) | refine Vr ?_ | refine Vt ?_ | refine Vf ?_ | refine Vm ?_ | refine Ve ?_ | refine Vo ?_ | refine Vz ?_ | refine Vn ?_)
      (apply Ops_q; (case hon => (exact Va)); (case hd => rfl); (case hq => exact Yl_indexS (j := a) rfl rfl (by omega)))
      repeat (first | refine Vx ?_ | (apply Ops_q; (case hon => exact Va); (case hd => rfl); (case hq => exact YlA)) | refine Vr ?_ | refine Vt ?_ | refine Vf ?_ | refine Vm ?_ | refine Ve ?_ | refine Vo ?_ | refine Vz ?_ | refine Vn ?_)
      (apply Ops_q; (case hon => (exact Va)); (case hd => rfl); (case hq => exact Yl_call rfl (fun w_ e_ => lessU_v x pv w_)))
      repeat (first | refine Vx ?_ | (apply Ops_q; (case hon => exact Va); (case hd => rfl); (case hq => exact YlA)) | refine Vr ?_ | refine Vt ?_ | refine Vf ?_ | refine Vm ?_ | refine Ve ?_ | refine Vo ?_ | refine Vz ?_ | refine Vn ?_)
      refine V_cond rfl (fun hlt => ?_) (fun hlt => ?_)
      · repeat (first | refine Vx ?_ | (apply Ops_q; (case hon => exact Va); (case hd => rfl); (case hq => exact YlA)) | refine Vr ?_ | refine Vt ?_ | refine Vf ?_ | refine Vm ?_ | refine Ve ?_ | refine Vo ?_ | refine Vz ?_ | refine Vn ?_)
        rw [hs1]
        exact ⟨p, (by repeat (first | exact trivial | refine ⟨rfl, ?_⟩)), ⟨x4, hsj, by omega, hP4.dec hx (by have h := hlt; simp at h; simp only [ltU]; omega)⟩, by omega⟩
      · repeat (first | refine Vx ?_ | (apply Ops_q; (case hon => exact Va); (case hd => rfl); (case hq => exact YlA)) | refine Vr ?_ | refine Vt ?_ | refine Vf ?_ | refine Vm ?_ | refine Ve ?_ | refine Vo ?_ | refine Vz ?_ | refine Vn ?_)
        exact ⟨p + 1, (by repeat (first | exact trivial | refine ⟨rfl, ?_⟩)), x4, h4, h5, hP4, fun z _ hz => by rw [hx] at hz; cases hz; have h := hlt; simp at h; simp only [ltU]; omega⟩
    · have hd : decide ((i : Int) ≤ (s : Int)) = false := decide_eq_false (by omega)
      repeat (first | refine Vx ?_ | (apply Ops_q; (case hon => exact Va); (case hd => rfl); (case hq => exact YlA)) | refine Vr ?_ | refine Vt ?_ | refine Vf ?_ | refine Vm ?_ | refine Ve ?_ | refine Vo ?_ | refine Vz ?_ | refine Vn ?_)
      refine Ops_know rfl rfl hd ?_
      repeat (first | refine Vx ?_ | (apply Ops_q; (case hon => exact Va); (case hd => rfl); (case hq => exact YlA)) | refine Vr ?_ | refine Vt ?_ | refine Vf ?_ | refine Vm ?_ | refine Ve ?_ | refine Vo ?_ | refine Vz ?_ | refine Vn ?_)
      exact ⟨s, (by repeat (first | exact trivial | refine ⟨rfl, ?_⟩)), x4, h4, h5, hP4, fun z h => absurd h hsj⟩
  clear h2 hP
  rintro j w3 ⟨x3, h2, hjj, hP, hdown⟩
  have D3 := D3.ext x3
  have m3 := m3.ext x3
  replace hjb : j < b := by omega
  replace hup : ∀ x, i ≤ j → M[i]? = some x → ¬ltU x pv < 0 := fun x h => hup x (by omega)
  clear x3
  repeat (first | refine Vx ?_ | (apply Ops_q; (case hon => exact Va); (case hd => rfl); (case hq => exact YlA)) | refine Vr ?_ | refine Vt ?_ | refine Vf ?_ | refine Vm ?_ | refine Ve ?_ | refine Vo ?_ | refine Vz ?_ | refine Vn ?_)
  refine V_cond rfl (fun hg => ?_) (fun hg => ?_)
  · replace hg := of_decide_eq_true hg
    obtain rfl : i = j + 1 := by omega
    have hMl := D3.len
    obtain ⟨x, hx⟩ := D3.get (k := j) (by omega)
    obtain ⟨y, hy⟩ := D3.get (k := a) (by omega)
    have hcx := D3.at hx
    have hcy := D3.at hy
    repeat (first | refine Vx ?_ | (apply Ops_q; (case hon => exact Va); (case hd => rfl); (case hq => exact YlA)) | refine Vt ?_ | refine Vf ?_ | refine Vm ?_ | refine Ve ?_ | refine Vo ?_ | refine Vz ?_ | refine Vn ?_)
    refine V_store (R := fun w' => DatU w' base g n cap (M.set (j) y) ∧ Mod (fun c => c = g) w3 w') 14 13 (fun _ _ he h => ⟨h.1.ext he, h.2.ext he⟩) (by kernel_rfl) rfl (by kernel_rfl) ?_
    repeat (first
      | (refine YsS.pure rfl rfl rfl rfl rfl (fun w_ => (by first | exact Yl_move rfl | exact Yl_pred rfl rfl (by omega) | exact Yl_arith_in rfl rfl rfl (by first | assumption | (simp only [InK]; omega)))) ?_)
      | (refine YsS.load rfl rfl rfl rfl rfl (by first | exact Yl_load rfl hcx | exact Yl_load rfl hcy) ?_))
    refine YsS.pure rfl rfl rfl rfl rfl (fun w_ => Yl_indexS (j := (a)) rfl rfl (by omega)) ?_
    repeat (first
      | (refine YsS.pure rfl rfl rfl rfl rfl (fun w_ => (by first | exact Yl_move rfl | exact Yl_pred rfl rfl (by omega) | exact Yl_arith_in rfl rfl rfl (by first | assumption | (simp only [InK]; omega)))) ?_)
      | (refine YsS.load rfl rfl rfl rfl rfl (by first | exact Yl_load rfl hcx | exact Yl_load rfl hcy) ?_))
    refine YsS.pure rfl rfl rfl rfl rfl (fun w_ => Yl_indexS (j := (j)) rfl rfl (by omega)) ?_
    repeat (first
      | (refine YsS.pure rfl rfl rfl rfl rfl (fun w_ => (by first | exact Yl_move rfl | exact Yl_pred rfl rfl (by omega) | exact Yl_arith_in rfl rfl rfl (by first | assumption | (simp only [InK]; omega)))) ?_)
      | (refine YsS.load rfl rfl rfl rfl rfl (by first | exact Yl_load rfl hcx | exact Yl_load rfl hcy) ?_))
    refine YsS.pure rfl rfl rfl rfl rfl (fun w_ => Yl_indexS (j := (j)) rfl rfl (by omega)) ?_
    refine YsS.nil rfl ⟨fun a_ ag_ w_ hw_ => storeDatU_run (i := j) (v := y) rfl rfl rfl D3 (by omega) a_ ag_ w_ hw_, ?_⟩
    repeat (first
      | (refine YsS.pure rfl rfl rfl rfl rfl (fun w_ => (by first | exact Yl_move rfl | exact Yl_pred rfl rfl (by omega) | exact Yl_arith_in rfl rfl rfl (by first | assumption | (simp only [InK]; omega)))) ?_)
      | (refine YsS.load rfl rfl rfl rfl rfl (by first | exact Yl_load rfl hcx | exact Yl_load rfl hcy) ?_))
    refine YsS.nil rfl ?_
    rintro w4 ⟨D4, m4⟩
    repeat (first | refine Vx ?_ | (apply Ops_q; (case hon => exact Va); (case hd => rfl); (case hq => exact YlA)) | refine Vr ?_ | refine Vt ?_ | refine Vf ?_ | refine Vm ?_ | refine Ve ?_ | refine Vo ?_ | refine Vz ?_ | refine Vn ?_)
    (apply Ops_q; (case hon => (exact Va)); (case hd => rfl); (case hq => exact Yl_indexS (j := (a)) rfl rfl (by omega)))
    repeat (first | refine Vx ?_ | (apply Ops_q; (case hon => exact Va); (case hd => rfl); (case hq => exact YlA)) | refine Vr ?_ | refine Vt ?_ | refine Vf ?_ | refine Vm ?_ | refine Ve ?_ | refine Vo ?_ | refine Vz ?_ | refine Vn ?_)
    refine Ops_storeDatU (i := a) (v := x) (by exact Va) rfl rfl rfl D4 (by omega) ?_
    intro w5 D5 g5
    have m5 : Mod (BlkU g) w w5 := (m3.trans m4).grow g5 (fun b hb => .inl (by cases hb; rfl))
    have hsw : (M.set (j) y).set (a) x = swp M (j) (a) := by unfold swp; rw [hx, hy]
    rw [hsw] at D5
    have hM5 : Moved L (swp M j a) a b := hM.trans (Moved.swp (by omega) (by omega) (by omega))
    obtain ⟨q1, q2⟩ := part_end ordU hP hpv (by omega) (by omega)
    repeat (first | refine Vx ?_ | (apply Ops_q; (case hon => exact Va); (case hd => rfl); (case hq => exact YlA)) | refine Vr ?_ | refine Vt ?_ | refine Vf ?_ | refine Vm ?_ | refine Ve ?_ | refine Vo ?_ | refine Vz ?_ | refine Vn ?_)
    refine ret2 (by first | exact .inl rfl | exact .inr rfl) rfl rfl rfl ?_
    exact Does_mk (fun w' he => ⟨_, D5.ext he, ⟨j, _, rfl, by omega, hjb, hM5, q1, q2⟩⟩) m5
  replace hg := of_decide_eq_false hg
  have hMl := D3.len
  obtain ⟨p, rfl⟩ : ∃ p, j = p + 1 := ⟨j - 1, by omega⟩
  have hs1 : ((p + 1 : Nat) : Int) - 1 = (p : Int) := by omega
  obtain ⟨x, hx⟩ := D3.get (k := i) (by omega)
  obtain ⟨y, hy⟩ := D3.get (k := p + 1) (by omega)
  have hcx := D3.at hx
  have hcy := D3.at hy
  have hQx := hup x (by omega) hx
  have hPy := hdown y (by omega) hy
  have hij : i < p + 1 := by
    rcases Nat.lt_or_ge i (p + 1) with h | h
    · exact h
    · obtain rfl : i = p + 1 := by omega
      rw [hx] at hy; cases hy
      simp only [ltU] at hQx hPy; omega
  repeat (first | refine Vx ?_ | (apply Ops_q; (case hon => exact Va); (case hd => rfl); (case hq => exact YlA)) | refine Vt ?_ | refine Vf ?_ | refine Vm ?_ | refine Ve ?_ | refine Vo ?_ | refine Vz ?_ | refine Vn ?_)
  refine V_store (R := fun w' => DatU w' base g n cap (M.set (i) y) ∧ Mod (fun c => c = g) w3 w') 14 13 (fun _ _ he h => ⟨h.1.ext he, h.2.ext he⟩) (by kernel_rfl) rfl (by kernel_rfl) ?_
  repeat (first
    | (refine YsS.pure rfl rfl rfl rfl rfl (fun w_ => (by first | exact Yl_move rfl | exact Yl_pred rfl rfl (by omega) | exact Yl_arith_in rfl rfl rfl (by first | assumption | (simp only [InK]; omega)))) ?_)
    | (refine YsS.load rfl rfl rfl rfl rfl (by first | exact Yl_load rfl hcx | exact Yl_load rfl hcy) ?_))
  refine YsS.pure rfl rfl rfl rfl rfl (fun w_ => Yl_indexS (j := (p+1)) rfl rfl (by omega)) ?_
  repeat (first
    | (refine YsS.pure rfl rfl rfl rfl rfl (fun w_ => (by first | exact Yl_move rfl | exact Yl_pred rfl rfl (by omega) | exact Yl_arith_in rfl rfl rfl (by first | assumption | (simp only [InK]; omega)))) ?_)
    | (refine YsS.load rfl rfl rfl rfl rfl (by first | exact Yl_load rfl hcx | exact Yl_load rfl hcy) ?_))
  refine YsS.pure rfl rfl rfl rfl rfl (fun w_ => Yl_indexS (j := (i)) rfl rfl (by omega)) ?_
  repeat (first
    | (refine YsS.pure rfl rfl rfl rfl rfl (fun w_ => (by first | exact Yl_move rfl | exact Yl_pred rfl rfl (by omega) | exact Yl_arith_in rfl rfl rfl (by first | assumption | (simp only [InK]; omega)))) ?_)
    | (refine YsS.load rfl rfl rfl rfl rfl (by first | exact Yl_load rfl hcx | exact Yl_load rfl hcy) ?_))
  refine YsS.pure rfl rfl rfl rfl rfl (fun w_ => Yl_indexS (j := (i)) rfl rfl (by omega)) ?_
  refine YsS.nil rfl ⟨fun a_ ag_ w_ hw_ => storeDatU_run (i := i) (v := y) rfl rfl rfl D3 (by omega) a_ ag_ w_ hw_, ?_⟩
  repeat (first
    | (refine YsS.pure rfl rfl rfl rfl rfl (fun w_ => (by first | exact Yl_move rfl | exact Yl_pred rfl rfl (by omega) | exact Yl_arith_in rfl rfl rfl (by first | assumption | (simp only [InK]; omega)))) ?_)
    | (refine YsS.load rfl rfl rfl rfl rfl (by first | exact Yl_load rfl hcx | exact Yl_load rfl hcy) ?_))
  refine YsS.nil rfl ?_
  rintro w4 ⟨D4, m4⟩
  repeat (first | refine Vx ?_ | (apply Ops_q; (case hon => exact Va); (case hd => rfl); (case hq => exact YlA)) | refine Vr ?_ | refine Vt ?_ | refine Vf ?_ | refine Vm ?_ | refine Ve ?_ | refine Vo ?_ | refine Vz ?_ | refine Vn ?_)
  (apply Ops_q; (case hon => (exact Va)); (case hd => rfl); (case hq => exact Yl_indexS (j := (p+1)) rfl rfl (by omega)))
  repeat (first | refine Vx ?_ | (apply Ops_q; (case hon => exact Va); (case hd => rfl); (case hq => exact YlA)) | refine Vr ?_ | refine Vt ?_ | refine Vf ?_ | refine Vm ?_ | refine Ve ?_ | refine Vo ?_ | refine Vz ?_ | refine Vn ?_)
  refine Ops_storeDatU (i := p+1) (v := x) (by exact Va) rfl rfl rfl D4 (by omega) ?_
  intro w5 D5 g5
  have m5 : Mod (BlkU g) w w5 := (m3.trans m4).grow g5 (fun b hb => .inl (by cases hb; rfl))
  have hsw : (M.set (i) y).set (p+1) x = swp M (i) (p+1) := by unfold swp; rw [hx, hy]
  rw [hsw] at D5
  repeat (first | refine Vx ?_ | (apply Ops_q; (case hon => exact Va); (case hd => rfl); (case hq => exact YlA)) | refine Vr ?_ | refine Vt ?_ | refine Vf ?_ | refine Vm ?_ | refine Ve ?_ | refine Vo ?_ | refine Vz ?_ | refine Vn ?_)
  rw [hs1]
  have hP5 := hP.swap hij (by omega) hx hy hQx hPy
  have hM5 : Moved L (swp M i (p + 1)) a b := hM.trans (Moved.swp (by omega) (by omega) (by omega))
  have hpv5 : (swp M i (p + 1))[a]? = some pv := by rw [swp_get (by omega) (by omega), if_neg (by omega), if_neg (by omega)]; exact hpv
  exact ⟨(i + 1, p, swp M i (p + 1)), (by repeat (first | exact trivial | refine ⟨rfl, ?_⟩)), ⟨by dsimp only; omega, by dsimp only; omega, by dsimp only; omega, m5, D5, hM5, hpv5, hP5⟩, by simp only; omega⟩
set_option maxHeartbeats 2000000 in
theorem partEqU_v (L : List Int) (a b p0 : Nat) (pv : Int) (w : World) (hD : DatU w base g n cap L) (hn : n ≤ 1000000000000) (hb : b ≤ n) (hab : a < b) (hp0 : a ≤ p0 ∧ p0 < b) (hv0 : L[p0]? = some pv) :
    Calls Try.prog 117 #[.slice (some ⟨g, 0, none⟩) n cap, .int .i64 a, .int .i64 b, .int .i64 p0] w
      (Does (BlkU g) (DatV base g n cap (fun r L' => ∃ i : Nat, r = .int .i64 i ∧ a < i ∧ i ≤ b ∧ Moved L L' a b ∧ (∀ k x, a ≤ k → k < i → L'[k]? = some x → ¬ltU pv x < 0) ∧ ∀ k x, i ≤ k → k < b → L'[k]? = some x → ltU pv x < 0)) w) := by
  obtain ⟨z, hbz⟩ : ∃ z, z + 1 = b := ⟨b - 1, by omega⟩
  have hz : (b : Int) - 1 = (z : Int) := by omega
  have hMl := hD.len
  obtain ⟨x, hx⟩ := hD.get (k := a) (by omega)
  obtain ⟨y, hy⟩ := hD.get (k := p0) (by omega)
  obtain rfl : y = pv := Option.some.inj (hy.symm.trans hv0)
  have hcx := hD.at hx
  have hcy := hD.at hy
  have m3 : Mod (BlkU g) w w := .of_ext (Ext.refl _)
  refine V_enter (vs := [_, _, _, _]) Try.func117 rfl Try.ntmps117 (Nat.le_of_ble_eq_true rfl) ?_
  repeat (first | refine Vx ?_ | (apply Ops_q; (case hon => exact Va); (case hd => rfl); (case hq => exact YlA)) | refine Vt ?_ | refine Vf ?_ | refine Vm ?_ | refine Ve ?_ | refine Vo ?_ | refine Vz ?_ | refine Vn ?_)
  refine V_store (R := fun w' => DatU w' base g n cap (L.set (a) y) ∧ Mod (fun c => c = g) w w') 14 13 (fun _ _ he h => ⟨h.1.ext he, h.2.ext he⟩) (by kernel_rfl) rfl (by kernel_rfl) ?_
  repeat (first
    | (refine YsS.pure rfl rfl rfl rfl rfl (fun w_ => (by first | exact Yl_move rfl | exact Yl_pred rfl rfl (by omega) | exact Yl_arith_in rfl rfl rfl (by first | assumption | (simp only [InK]; omega)))) ?_)
    | (refine YsS.load rfl rfl rfl rfl rfl (by first | exact Yl_load rfl hcx | exact Yl_load rfl hcy) ?_))
  refine YsS.pure rfl rfl rfl rfl rfl (fun w_ => Yl_indexS (j := (p0)) rfl rfl (by omega)) ?_
  repeat (first
    | (refine YsS.pure rfl rfl rfl rfl rfl (fun w_ => (by first | exact Yl_move rfl | exact Yl_pred rfl rfl (by omega) | exact Yl_arith_in rfl rfl rfl (by first | assumption | (simp only [InK]; omega)))) ?_)
    | (refine YsS.load rfl rfl rfl rfl rfl (by first | exact Yl_load rfl hcx | exact Yl_load rfl hcy) ?_))
  refine YsS.pure rfl rfl rfl rfl rfl (fun w_ => Yl_indexS (j := (a)) rfl rfl (by omega)) ?_
  repeat (first
    | (refine YsS.pure rfl rfl rfl rfl rfl (fun w_ => (by first | exact Yl_move rfl | exact Yl_pred rfl rfl (by omega) | exact Yl_arith_in rfl rfl rfl (by first | assumption | (simp only [InK]; omega)))) ?_)
    | (refine YsS.load rfl rfl rfl rfl rfl (by first | exact Yl_load rfl hcx | exact Yl_load rfl hcy) ?_))
  refine YsS.pure rfl rfl rfl rfl rfl (fun w_ => Yl_indexS (j := (a)) rfl rfl (by omega)) ?_
  refine YsS.nil rfl ⟨fun a_ ag_ w_ hw_ => storeDatU_run (i := a) (v := y) rfl rfl rfl hD (by omega) a_ ag_ w_ hw_, ?_⟩
  repeat (first
    | (refine YsS.pure rfl rfl rfl rfl rfl (fun w_ => (by first | exact Yl_move rfl | exact Yl_pred rfl rfl (by omega) | exact Yl_arith_in rfl rfl rfl (by first | assumption | (simp only [InK]; omega)))) ?_)
    | (refine YsS.load rfl rfl rfl rfl rfl (by first | exact Yl_load rfl hcx | exact Yl_load rfl hcy) ?_))
  refine YsS.nil rfl ?_
  rintro w4 ⟨D4, m4⟩
  repeat (first | refine Vx ?_ | (apply Ops_q; (case hon => exact Va); (case hd => rfl); (case hq => exact YlA)) | refine Vr ?_ | refine Vt ?_ | refine Vf ?_ | refine Vm ?_ | refine Ve ?_ | refine Vo ?_ | refine Vz ?_ | refine Vn ?_)
  (apply Ops_q; (case hon => (exact Va)); (case hd => rfl); (case hq => exact Yl_indexS (j := (p0)) rfl rfl (by omega)))
  repeat (first | refine Vx ?_ | (apply Ops_q; (case hon => exact Va); (case hd => rfl); (case hq => exact YlA)) | refine Vr ?_ | refine Vt ?_ | refine Vf ?_ | refine Vm ?_ | refine Ve ?_ | refine Vo ?_ | refine Vz ?_ | refine Vn ?_)
  refine Ops_storeDatU (i := p0) (v := x) (by exact Va) rfl rfl rfl D4 (by omega) ?_
  intro w5 D5 g5
  have m5 : Mod (BlkU g) w w5 := (m3.trans m4).grow g5 (fun b hb => .inl (by cases hb; rfl))
  have hsw : (L.set (a) y).set (p0) x = swp L (a) (p0) := by unfold swp; rw [hx, hy]
  rw [hsw] at D5
  have hM : Moved L (swp L a p0) a b := Moved.swp (by omega) hp0 (by omega)
  have hpv : (swp L a p0)[a]? = some y := by
    rw [swp_get (by omega) (by omega)]
    by_cases e : a = p0
    · rw [if_pos e, e]; exact hy
    · rw [if_neg e, if_pos rfl]; exact hy
  generalize swp L a p0 = M at *
  clear hx hy hcx hcy D4 m4 g5 hsw m3 hD hMl hv0
  have hMl := D5.len
  repeat (first | refine Vx ?_ | (apply Ops_q; (case hon => exact Va); (case hd => rfl); (case hq => exact YlA)) | refine Vr ?_ | refine Vt ?_ | refine Vf ?_ | refine Vm ?_ | refine Ve ?_ | refine Vo ?_ | refine Vz ?_ | refine Vn ?_)
  rw [hz]
  have hP : PtS (fun x => ¬ltU y x < 0) (fun x => ltU y x < 0) M a (a + 1) z b := .start hbz
  have hzb : z < b := by omega
  have haz : a + 1 ≤ z + 1 := by omega
  obtain ⟨pv, hpve⟩ : ∃ pv, pv = y := ⟨_, rfl⟩
  rw [← hpve] at hpv hP ⊢
  clear hpve hp0
  refine V_loop (fun s : Nat × Nat × List Int => [(9, .int .i64 s.1), (10, .int .i64 s.2.1), (0, .slice (some ⟨g, 0, none⟩) n cap), (1, .int .i64 a)])
    (fun s w' => a + 1 ≤ s.1 ∧ s.1 ≤ s.2.1 + 1 ∧ s.2.1 < b ∧ Mod (BlkU g) w w' ∧ DatU w' base g n cap s.2.2 ∧ Moved L s.2.2 a b ∧ s.2.2[a]? = some pv ∧ PtS (fun x => ¬ltU pv x < 0) (fun x => ltU pv x < 0) s.2.2 a s.1 s.2.1 b) (fun s => s.2.1 + 1 - s.1) (a + 1, z, M) (by repeat (first | exact trivial | refine ⟨rfl, ?_⟩))
    ⟨Nat.le_refl _, haz, hzb, m5, D5, hM, hpv, hP⟩ ?_
  clear haz hzb m5 D5 hM hpv hP hz hbz hMl
  rintro ⟨i, j, M⟩ w3 ⟨h1, h2, hjb, m3, D3, hM, hpv, hP⟩
  dsimp only at h1 h2 hjb D3 hM hpv hP ⊢
  (repeat (first | refine V_seq ?_ | refine V_block ?_))
  refine V_meetB (fun s : Nat => [(9, .int .i64 s), (10, .int .i64 j), (0, .slice (some ⟨g, 0, none⟩) n cap), (1, .int .i64 a)])
    (fun s w' => Ext w3 w' ∧ i ≤ s ∧ s ≤ j + 1 ∧ PtS (fun x => ¬ltU pv x < 0) (fun x => ltU pv x < 0) M a s j b ∧ ∀ x, s ≤ j → M[s]? = some x → ltU pv x < 0) ?_ ?_
  · refine V_loop (fun s : Nat => [(9, .int .i64 s), (10, .int .i64 j), (0, .slice (some ⟨g, 0, none⟩) n cap), (1, .int .i64 a)])
      (fun s w' => Ext w3 w' ∧ i ≤ s ∧ s ≤ j + 1 ∧ PtS (fun x => ¬ltU pv x < 0) (fun x => ltU pv x < 0) M a s j b) (fun s => j + 1 - s) i (by repeat (first | exact trivial | refine ⟨rfl, ?_⟩)) ⟨Ext.refl _, Nat.le_refl _, h2, hP⟩ ?_
    rintro s w4 ⟨x4, h4, h5, hP4⟩
    have D4 := D3.ext x4
    by_cases hsj : s ≤ j
    · have hd : decide ((s : Int) ≤ (j : Int)) = true := decide_eq_true (by omega)
      obtain ⟨x, hx⟩ := D4.get (k := s) (by omega)
      have hcx := D4.at hx
      have hcp := D4.at hpv
      repeat (first | refine Vx ?_ | (apply Ops_q; (case hon => exact Va); (case hd => rfl); (case hq => exact YlA)) | refine Vr ?_ | refine Vt ?_ | refine Vf ?_ | refine Vm ?_ | refine Ve ?_ | refine Vo ?_ | refine Vz ?_ | refine Vn ?_)
      refine Ops_know rfl rfl hd ?_
      repeat (first | refine Vx ?_ | (apply Ops_q; (case hon => exact Va); (case hd => rfl); (case hq => exact YlA)) | refine Vr ?_ | refine Vt ?_ | refine Vf ?_ | refine Vm ?_ | refine Ve ?_ | refine Vo ?_ | refine Vz ?_ | refine Vn ?_)
      (apply Ops_q; (case hon => (exact Va)); (case hd => rfl); (case hq => exact Yl_indexS (j := a) rfl rfl (by omega)))
      repeat (first | refine Vx ?_ | (apply Ops_q; (case hon => exact Va); (case hd => rfl); (case hq => exact YlA)) | refine Vr ?_ | refine Vt ?_ | refine Vf ?_ | refine Vm ?_ | refine Ve ?_ | refine Vo ?_ | refine Vz ?_ | refine Vn ?_)
      (apply Ops_q; (case hon => (exact Va)); (case hd => rfl); (case hq => exact Yl_indexS (j := s) rfl rfl (by omega)))
      repeat (first | refine Vx ?_ | (apply Ops_q; (case hon => exact Va); (case hd => rfl); (case hq => exact YlA)) | refine Vr ?_ | refine Vt ?_ | refine Vf ?_ | refine Vm ?_ | refine Ve ?_ | refine Vo ?_ | refine Vz ?_ | refine Vn ?_)
      (apply Ops_q; (case hon => (exact Va)); (case hd => rfl); (case hq => exact Yl_call rfl (fun w_ e_ => lessU_v pv x w_)))
      repeat (first | refine Vx ?_ | (apply Ops_q; (case hon => exact Va); (case hd => rfl); (case hq => exact YlA)) | refine Vr ?_ | refine Vt ?_ | refine Vf ?_ | refine Vm ?_ | refine Ve ?_ | refine Vo ?_ | refine Vz ?_ | refine Vn ?_)
      refine V_cond rfl (fun hlt => ?_) (fun hlt => ?_)
      · repeat (first | refine Vx ?_ | (apply Ops_q; (case hon => exact Va); (case hd => rfl); (case hq => exact YlA)) | refine Vr ?_ | refine Vt ?_ | refine Vf ?_ | refine Vm ?_ | refine Ve ?_ | refine Vo ?_ | refine Vz ?_ | refine Vn ?_)
        exact ⟨s + 1, (by repeat (first | exact trivial | refine ⟨rfl, ?_⟩)), ⟨x4, by omega, by omega, hP4.inc hx (by have h := hlt; simp at h; simp only [ltU]; omega)⟩, by omega⟩
      · repeat (first | refine Vx ?_ | (apply Ops_q; (case hon => exact Va); (case hd => rfl); (case hq => exact YlA)) | refine Vr ?_ | refine Vt ?_ | refine Vf ?_ | refine Vm ?_ | refine Ve ?_ | refine Vo ?_ | refine Vz ?_ | refine Vn ?_)
        exact ⟨s, (by repeat (first | exact trivial | refine ⟨rfl, ?_⟩)), x4, h4, h5, hP4, fun z _ hz => by rw [hx] at hz; cases hz; have h := hlt; simp at h; simp only [ltU]; omega⟩
    · have hd : decide ((s : Int) ≤ (j : Int)) = false := decide_eq_false (by omega)
      repeat (first | refine Vx ?_ | (apply Ops_q; (case hon => exact Va); (case hd => rfl); (case hq => exact YlA)) | refine Vr ?_ | refine Vt ?_ | refine Vf ?_ | refine Vm ?_ | refine Ve ?_ | refine Vo ?_ | refine Vz ?_ | refine Vn ?_)
      refine Ops_know rfl rfl hd ?_
      repeat (first | refine Vx ?_ | (apply Ops_q; (case hon => exact Va); (case hd => rfl); (case hq => exact YlA)) | refine Vr ?_ | refine Vt ?_ | refine Vf ?_ | refine Vm ?_ | refine Ve ?_ | refine Vo ?_ | refine Vz ?_ | refine Vn ?_)
      exact ⟨s, (by repeat (first | exact trivial | refine ⟨rfl, ?_⟩)), x4, h4, h5, hP4, fun z h => absurd h hsj⟩
  clear h2 hP
  rintro i w3 ⟨x3, hii, h2, hP, hup⟩
  have D3 := D3.ext x3
  have m3 := m3.ext x3
  replace h1 : a + 1 ≤ i := by omega
  clear x3
  refine V_seq ?_
  refine V_block ?_
  refine V_meetB (fun s : Nat => [(9, .int .i64 i), (10, .int .i64 s), (0, .slice (some ⟨g, 0, none⟩) n cap), (1, .int .i64 a)])
    (fun s w' => Ext w3 w' ∧ i ≤ s + 1 ∧ s ≤ j ∧ PtS (fun x => ¬ltU pv x < 0) (fun x => ltU pv x < 0) M a i s b ∧ ∀ x, i ≤ s → M[s]? = some x → ¬ltU pv x < 0) ?_ ?_
  · refine V_loop (fun s : Nat => [(9, .int .i64 i), (10, .int .i64 s), (0, .slice (some ⟨g, 0, none⟩) n cap), (1, .int .i64 a)])
      (fun s w' => Ext w3 w' ∧ i ≤ s + 1 ∧ s ≤ j ∧ PtS (fun x => ¬ltU pv x < 0) (fun x => ltU pv x < 0) M a i s b) (fun s => s) j (by repeat (first | exact trivial | refine ⟨rfl, ?_⟩)) ⟨Ext.refl _, h2, Nat.le_refl _, hP⟩ ?_
    rintro s w4 ⟨x4, h4, h5, hP4⟩
    have D4 := D3.ext x4
    by_cases hsj : i ≤ s
    · obtain ⟨p, rfl⟩ : ∃ p, s = p + 1 := ⟨s - 1, by omega⟩
      have hs1 : ((p + 1 : Nat) : Int) - 1 = (p : Int) := by omega
      have hd : decide ((i : Int) ≤ ((p + 1 : Nat) : Int)) = true := decide_eq_true (by omega)
      obtain ⟨x, hx⟩ := D4.get (k := p + 1) (by omega)
      have hcx := D4.at hx
      have hcp := D4.at hpv
      repeat (first | refine Vx ?_ | (apply Ops_q; (case hon => exact Va); (case hd => rfl); (case hq => exact YlA)) | refine Vr ?_ | refine Vt ?_ | refine Vf ?_ | refine Vm ?_ | refine Ve ?_ | refine Vo ?_ | refine Vz ?_ | refine Vn ?_)
      refine Ops_know rfl rfl hd ?_
      repeat (first | refine Vx ?_ | (apply Ops_q; (case hon => exact Va); (case hd => rfl); (case hq => exact YlA)) | refine Vr ?_ | refine Vt ?_ | refine Vf ?_ | refine Vm ?_ | refine Ve ?_ | refine Vo ?_ | refine Vz ?_ | refine Vn ?_)
      (apply Ops_q; (case hon => (exact Va)); (case hd => rfl); (case hq => exact Yl_indexS (j := a) rfl rfl (by omega)))
      repeat (first | refine Vx ?_ | (apply Ops_q; (case hon => exact Va); (case hd => rfl); (case hq => exact YlA)) | refine Vr ?_ | refine Vt ?_ | refine Vf ?_ | refine Vm ?_ | refine Ve ?_ | refine Vo ?_ | refine Vz ?_ | refine Vn ?_)
      (apply Ops_q; (case hon => (exact Va)); (case hd => rfl); (case hq => exact Yl_indexS (j := (p+1)) rfl rfl (by omega)))
      repeat (first | refine Vx ?_ | (apply Ops_q; (case hon => exact Va); (case hd => rfl); (case hq => exact YlA)) | refine Vr ?_ | refine Vt ?_ | refine Vf ?_ | refine Vm ?_ | refine Ve ?_ | refine Vo ?_ | refine Vz ?_ | refine Vn ?_)
      (apply Ops_q; (case hon => (exact Va)); (case hd => rfl); (case hq => exact Yl_call rfl (fun w_ e_ => lessU_v pv x w_)))
      repeat (first | refine Vx ?_ | (apply Ops_q; (case hon => exact Va); (case hd => rfl); (case hq => exact YlA)) | refine Vr ?_ | refine Vt ?_ | refine Vf ?_ | refine Vm ?_ | refine Ve ?_ | refine Vo ?_ | refine Vz ?_ | refine Vn ?_)
      refine V_cond rfl (fun hlt => ?_) (fun hlt => ?_)
      · repeat (first | refine Vx ?_ | (apply Ops_q; (case hon => exact Va); (case hd => rfl); (case hq => exact YlA)) | refine Vr ?_ | refine Vt ?_ | refine Vf ?_ | refine Vm ?_ | refine Ve ?_ | refine Vo ?_ | refine Vz ?_ | refine Vn ?_)
        rw [hs1]
        exact ⟨p, (by repeat (first | exact trivial | refine ⟨rfl, ?_⟩)), ⟨x4, hsj, by omega, hP4.dec hx (by have h := hlt; simp at h; simp only [ltU]; omega)⟩, by omega⟩
      · repeat (first | refine Vx ?_ | (apply Ops_q; (case hon => exact Va); (case hd => rfl); (case hq => exact YlA)) | refine Vr ?_ | refine Vt ?_ | refine Vf ?_ | refine Vm ?_ | refine Ve ?_ | refine Vo ?_ | refine Vz ?_ | refine Vn ?_)
        exact ⟨p + 1, (by repeat (first | exact trivial | refine ⟨rfl, ?_⟩)), x4, h4, h5, hP4, fun z _ hz => by rw [hx] at hz; cases hz; have h := hlt; simp at h; simp only [ltU]; omega⟩
    · have hd : decide ((i : Int) ≤ (s : Int)) = false := decide_eq_false (by omega)
      repeat (first | refine Vx ?_ | (apply Ops_q; (case hon => exact Va); (case hd => rfl); (case hq => exact YlA)) | refine Vr ?_ | refine Vt ?_ | refine Vf ?_ | refine Vm ?_ | refine Ve ?_ | refine Vo ?_ | refine Vz ?_ | refine Vn ?_)
      refine Ops_know rfl rfl hd ?_
      repeat (first | refine Vx ?_ | (apply Ops_q; (case hon => exact Va); (case hd => rfl); (case hq => exact YlA)) | refine Vr ?_ | refine Vt ?_ | refine Vf ?_ | refine Vm ?_ | refine Ve ?_ | refine Vo ?_ | refine Vz ?_ | refine Vn ?_)
      exact ⟨s, (by repeat (first | exact trivial | refine ⟨rfl, ?_⟩)), x4, h4, h5, hP4, fun z h => absurd h hsj⟩
  clear h2 hP
  rintro j w3 ⟨x3, h2, hjj, hP, hdown⟩
  have D3 := D3.ext x3
  have m3 := m3.ext x3
  replace hjb : j < b := by omega
  replace hup : ∀ x, i ≤ j → M[i]? = some x → ltU pv x < 0 := fun x h => hup x (by omega)
  clear x3
  repeat (first | refine Vx ?_ | (apply Ops_q; (case hon => exact Va); (case hd => rfl); (case hq => exact YlA)) | refine Vr ?_ | refine Vt ?_ | refine Vf ?_ | refine Vm ?_ | refine Ve ?_ | refine Vo ?_ | refine Vz ?_ | refine Vn ?_)
  refine V_cond rfl (fun hg => ?_) (fun hg => ?_)
  · replace hg := of_decide_eq_true hg
    obtain rfl : i = j + 1 := by omega
    repeat (first | refine Vx ?_ | (apply Ops_q; (case hon => exact Va); (case hd => rfl); (case hq => exact YlA)) | refine Vr ?_ | refine Vt ?_ | refine Vf ?_ | refine Vm ?_ | refine Ve ?_ | refine Vo ?_ | refine Vz ?_ | refine Vn ?_)
    refine ret1 (by first | exact .inl rfl | exact .inr rfl) rfl rfl ?_
    refine Does_mk (fun w' he => ⟨_, D3.ext he, ⟨j + 1, rfl, by omega, by omega, hM, fun k x h3 h4 hx => ?_, fun k x h3 h4 hx => hP.right k x (by omega) h4 hx⟩⟩) m3
    by_cases e : k = a
    · rw [e, hpv] at hx; cases hx; simp only [ltU]; omega
    · exact hP.left k x (by omega) h4 hx
  replace hg := of_decide_eq_false hg
  have hMl := D3.len
  obtain ⟨p, rfl⟩ : ∃ p, j = p + 1 := ⟨j - 1, by omega⟩
  have hs1 : ((p + 1 : Nat) : Int) - 1 = (p : Int) := by omega
  obtain ⟨x, hx⟩ := D3.get (k := i) (by omega)
  obtain ⟨y, hy⟩ := D3.get (k := p + 1) (by omega)
  have hcx := D3.at hx
  have hcy := D3.at hy
  have hQx := hup x (by omega) hx
  have hPy := hdown y (by omega) hy
  have hij : i < p + 1 := by
    rcases Nat.lt_or_ge i (p + 1) with h | h
    · exact h
    · obtain rfl : i = p + 1 := by omega
      rw [hx] at hy; cases hy
      simp only [ltU] at hQx hPy; omega
  repeat (first | refine Vx ?_ | (apply Ops_q; (case hon => exact Va); (case hd => rfl); (case hq => exact YlA)) | refine Vt ?_ | refine Vf ?_ | refine Vm ?_ | refine Ve ?_ | refine Vo ?_ | refine Vz ?_ | refine Vn ?_)
  refine V_store (R := fun w' => DatU w' base g n cap (M.set (i) y) ∧ Mod (fun c => c = g) w3 w') 14 13 (fun _ _ he h => ⟨h.1.ext he, h.2.ext he⟩) (by kernel_rfl) rfl (by kernel_rfl) ?_
  repeat (first
    | (refine YsS.pure rfl rfl rfl rfl rfl (fun w_ => (by first | exact Yl_move rfl | exact Yl_pred rfl rfl (by omega) | exact Yl_arith_in rfl rfl rfl (by first | assumption | (simp only [InK]; omega)))) ?_)
    | (refine YsS.load rfl rfl rfl rfl rfl (by first | exact Yl_load rfl hcx | exact Yl_load rfl hcy) ?_))
  refine YsS.pure rfl rfl rfl rfl rfl (fun w_ => Yl_indexS (j := (p+1)) rfl rfl (by omega)) ?_
  repeat (first
    | (refine YsS.pure rfl rfl rfl rfl rfl (fun w_ => (by first | exact Yl_move rfl | exact Yl_pred rfl rfl (by omega) | exact Yl_arith_in rfl rfl rfl (by first | assumption | (simp only [InK]; omega)))) ?_)
    | (refine YsS.load rfl rfl rfl rfl rfl (by first | exact Yl_load rfl hcx | exact Yl_load rfl hcy) ?_))
  refine YsS.pure rfl rfl rfl rfl rfl (fun w_ => Yl_indexS (j := (i)) rfl rfl (by omega)) ?_
  repeat (first
    | (refine YsS.pure rfl rfl rfl rfl rfl (fun w_ => (by first | exact Yl_move rfl | exact Yl_pred rfl rfl (by omega) | exact Yl_arith_in rfl rfl rfl (by first | assumption | (simp only [InK]; omega)))) ?_)
    | (refine YsS.load rfl rfl rfl rfl rfl (by first | exact Yl_load rfl hcx | exact Yl_load rfl hcy) ?_))
  refine YsS.pure rfl rfl rfl rfl rfl (fun w_ => Yl_indexS (j := (i)) rfl rfl (by omega)) ?_
  refine YsS.nil rfl ⟨fun a_ ag_ w_ hw_ => storeDatU_run (i := i) (v := y) rfl rfl rfl D3 (by omega) a_ ag_ w_ hw_, ?_⟩
  repeat (first
    | (refine YsS.pure rfl rfl rfl rfl rfl (fun w_ => (by first | exact Yl_move rfl | exact Yl_pred rfl rfl (by omega) | exact Yl_arith_in rfl rfl rfl (by first | assumption | (simp only [InK]; omega)))) ?_)
    | (refine YsS.load rfl rfl rfl rfl rfl (by first | exact Yl_load rfl hcx | exact Yl_load rfl hcy) ?_))
  refine YsS.nil rfl ?_
  rintro w4 ⟨D4, m4⟩
  repeat (first | refine Vx ?_ | (apply Ops_q; (case hon => exact Va); (case hd => rfl); (case hq => exact YlA)) | refine Vr ?_ | refine Vt ?_ | refine Vf ?_ | refine Vm ?_ | refine Ve ?_ | refine Vo ?_ | refine Vz ?_ | refine Vn ?_)
  (apply Ops_q; (case hon => (exact Va)); (case hd => rfl); (case hq => exact Yl_indexS (j := (p+1)) rfl rfl (by omega)))
  repeat (first | refine Vx ?_ | (apply Ops_q; (case hon => exact Va); (case hd => rfl); (case hq => exact YlA)) | refine Vr ?_ | refine Vt ?_ | refine Vf ?_ | refine Vm ?_ | refine Ve ?_ | refine Vo ?_ | refine Vz ?_ | refine Vn ?_)
  refine Ops_storeDatU (i := p+1) (v := x) (by exact Va) rfl rfl rfl D4 (by omega) ?_
  intro w5 D5 g5
  have m5 : Mod (BlkU g) w w5 := (m3.trans m4).grow g5 (fun b hb => .inl (by cases hb; rfl))
  have hsw : (M.set (i) y).set (p+1) x = swp M (i) (p+1) := by unfold swp; rw [hx, hy]
  rw [hsw] at D5
  repeat (first | refine Vx ?_ | (apply Ops_q; (case hon => exact Va); (case hd => rfl); (case hq => exact YlA)) | refine Vr ?_ | refine Vt ?_ | refine Vf ?_ | refine Vm ?_ | refine Ve ?_ | refine Vo ?_ | refine Vz ?_ | refine Vn ?_)
  rw [hs1]
  have hP5 := hP.swap hij (by omega) hx hy hQx hPy
  have hM5 : Moved L (swp M i (p + 1)) a b := hM.trans (Moved.swp (by omega) (by omega) (by omega))
  have hpv5 : (swp M i (p + 1))[a]? = some pv := by rw [swp_get (by omega) (by omega), if_neg (by omega), if_neg (by omega)]; exact hpv
  exact ⟨(i + 1, p, swp M i (p + 1)), (by repeat (first | exact trivial | refine ⟨rfl, ?_⟩)), ⟨by dsimp only; omega, by dsimp only; omega, by dsimp only; omega, m5, D5, hM5, hpv5, hP5⟩, by simp only; omega⟩
end
end Go.Proofs.Ytjpnaofoeeegeaa

/-
  Sorting words (slices.Sort at uint64): bits.Len, nextPowerOfTwo, the random numbers, breakPatterns.
  Conditions: the list is one's own, and not too long for a machine.
-/
namespace Go.Proofs.Ytjpnaofoeeegeaa
open Go.RowKit

theorem bitLenAux_spec : ∀ (f x : Nat), x < 2 ^ f → x < 2 ^ Lib.bitLenAux f x ∧ (0 < x → 2 ^ Lib.bitLenAux f x ≤ 2 * x)
  | 0, x, h => ⟨by simp at h; subst h; simp [Lib.bitLenAux], fun h2 => by simp at h; omega⟩
  | f + 1, x, h => by
    by_cases e : x = 0
    · subst e; simp [Lib.bitLenAux]
    · have ih := bitLenAux_spec f (x / 2) (by rw [Nat.pow_succ] at h; omega)
      have e2 : Lib.bitLenAux (f + 1) x = 1 + Lib.bitLenAux f (x / 2) := by simp [Lib.bitLenAux, e]
      rw [e2, Nat.add_comm, Nat.pow_succ]
      refine ⟨by omega, fun _ => ?_⟩
      by_cases h0 : 0 < x / 2
      · have := ih.2 h0; omega
      · have : x = 1 := by omega
        subst this
        cases f <;> simp [Lib.bitLenAux]
theorem bitLen_spec (x : Nat) (h : x < 2 ^ 64) : x < 2 ^ Lib.bitLen x ∧ (0 < x → 2 ^ Lib.bitLen x ≤ 2 * x) := bitLenAux_spec 64 x h
section
variable {P : Program} {N : Fr} {m : Env} {w : World} {dst : Nat} {ty : TypeId} {pos : String} {after : Array Edge} {g : Option (Nat × Bool)}
theorem Yl_len8 {t : TypeId} {x i : Operand} {k : IntKind} {y : Nat} (ht : P.underlying t = some .string) (hx : ev m x = some (.string Lib.len8tab)) (hi : ev m i = some (.int k (y : Int))) (hy : y < 256) :
    Yl P N m w ⟨dst, .index t x i, ty, pos, after, g⟩ (.int .u8 (Lib.bitLen y : Nat)) :=
  Yl_of_run fun ac w' ha _ => by
    have h1 := Lib.run_index_len8tab (P := P) w' t k (y : Int) ht (by omega) (by omega)
    rw [Lib.len8_of (y : Int) (by omega) (by omega)] at h1
    simp only [Int.toNat_natCast] at h1
    simp [execOp, ha.ev hx, ha.ev hi, h1]
end
set_option maxHeartbeats 2000000 in
theorem lenU_v (x : Nat) (w : World) (hx : x < 18446744073709551616) : Calls Try.prog 120 #[.int .u64 x] w (Ret (.int .i64 (Lib.bitLen x : Nat)) w) := by
  have p32 : (2 : Int) ^ (32 : Int).toNat = 4294967296 := by decide
  have p16 : (2 : Int) ^ (16 : Int).toNat = 65536 := by decide
  have p8 : (2 : Int) ^ (8 : Int).toNat = 256 := by decide
  refine V_enter (vs := [_]) Try.func120 rfl Try.ntmps120 (Nat.le_of_ble_eq_true rfl) ?_
  repeat (first | refine Vx ?_ | (apply Ops_q; (case hon => exact Va); (case hd => rfl); (case hq => exact YlA)) | refine Vr ?_ | refine Vt ?_ | refine Vf ?_ | refine Vm ?_ | refine Ve ?_ | refine Vo ?_ | refine Vz ?_ | refine Vn ?_)
  refine V_meet1 (fun s : Nat × Nat => [(0, .int .u64 s.1), (2, .int .i64 s.2)]) (fun s w' => w = w' ∧ s.1 < 4294967296 ∧ s.2 ≤ 32 ∧ Lib.bitLen x = s.2 + Lib.bitLen s.1) ?_ ?_
  · refine V_cond rfl (fun h => ?_) (fun h => ?_)
    · replace h := of_decide_eq_true h
      repeat (first | refine Vx ?_ | (apply Ops_q; (case hon => exact Va); (case hd => rfl); (case hq => exact YlA)) | refine Vr ?_ | refine Vt ?_ | refine Vf ?_ | refine Vm ?_ | refine Ve ?_ | refine Vo ?_ | refine Vz ?_ | refine Vn ?_)
      have e1 : (x : Int) / 2 ^ (32 : Int).toNat = ((x / 4294967296 : Nat) : Int) := by rw [p32]; omega
      rw [e1]
      exact ⟨(x / 4294967296, 32), (by repeat (first | exact trivial | refine ⟨rfl, ?_⟩)), rfl, by dsimp only; omega, Nat.le_refl _, Lib.bitLen_shift32 x (by omega) hx⟩
    · replace h := of_decide_eq_false h
      repeat (first | refine Vx ?_ | (apply Ops_q; (case hon => exact Va); (case hd => rfl); (case hq => exact YlA)) | refine Vr ?_ | refine Vt ?_ | refine Vf ?_ | refine Vm ?_ | refine Ve ?_ | refine Vo ?_ | refine Vz ?_ | refine Vn ?_)
      exact ⟨(x, 0), (by repeat (first | exact trivial | refine ⟨rfl, ?_⟩)), rfl, by dsimp only; omega, by dsimp only; omega, (Nat.zero_add _).symm⟩
  rintro ⟨y, e⟩ _ ⟨rfl, h1, h2, h3⟩
  dsimp only at h1 h2 h3 ⊢
  repeat (first | refine Vx ?_ | (apply Ops_q; (case hon => exact Va); (case hd => rfl); (case hq => exact YlA)) | refine Vr ?_ | refine Vt ?_ | refine Vf ?_ | refine Vm ?_ | refine Ve ?_ | refine Vo ?_ | refine Vz ?_ | refine Vn ?_)
  refine V_meet1 (fun s : Nat × Nat => [(0, .int .u64 s.1), (2, .int .i64 s.2)]) (fun s w' => w = w' ∧ s.1 < 65536 ∧ s.2 ≤ 48 ∧ Lib.bitLen x = s.2 + Lib.bitLen s.1) ?_ ?_
  · refine V_cond rfl (fun h => ?_) (fun h => ?_)
    · replace h := of_decide_eq_true h
      repeat (first | refine Vx ?_ | (apply Ops_q; (case hon => exact Va); (case hd => rfl); (case hq => exact YlA)) | refine Vr ?_ | refine Vt ?_ | refine Vf ?_ | refine Vm ?_ | refine Ve ?_ | refine Vo ?_ | refine Vz ?_ | refine Vn ?_)
      have e1 : (y : Int) / 2 ^ (16 : Int).toNat = ((y / 65536 : Nat) : Int) := by rw [p16]; omega
      rw [e1]
      have := Lib.bitLen_shift16 y (by omega) (by omega)
      exact ⟨(y / 65536, e + 16), (by repeat (first | exact trivial | refine ⟨rfl, ?_⟩)), rfl, by dsimp only; omega, by dsimp only; omega, by dsimp only; omega⟩
    · replace h := of_decide_eq_false h
      repeat (first | refine Vx ?_ | (apply Ops_q; (case hon => exact Va); (case hd => rfl); (case hq => exact YlA)) | refine Vr ?_ | refine Vt ?_ | refine Vf ?_ | refine Vm ?_ | refine Ve ?_ | refine Vo ?_ | refine Vz ?_ | refine Vn ?_)
      exact ⟨(y, e), (by repeat (first | exact trivial | refine ⟨rfl, ?_⟩)), rfl, by dsimp only; omega, by dsimp only; omega, h3⟩
  clear h1 h2 h3 y e
  rintro ⟨y, e⟩ _ ⟨rfl, h1, h2, h3⟩
  dsimp only at h1 h2 h3 ⊢
  repeat (first | refine Vx ?_ | (apply Ops_q; (case hon => exact Va); (case hd => rfl); (case hq => exact YlA)) | refine Vr ?_ | refine Vt ?_ | refine Vf ?_ | refine Vm ?_ | refine Ve ?_ | refine Vo ?_ | refine Vz ?_ | refine Vn ?_)
  refine V_meet1 (fun s : Nat × Nat => [(0, .int .u64 s.1), (2, .int .i64 s.2)]) (fun s w' => w = w' ∧ s.1 < 256 ∧ s.2 ≤ 56 ∧ Lib.bitLen x = s.2 + Lib.bitLen s.1) ?_ ?_
  · refine V_cond rfl (fun h => ?_) (fun h => ?_)
    · replace h := of_decide_eq_true h
      repeat (first | refine Vx ?_ | (apply Ops_q; (case hon => exact Va); (case hd => rfl); (case hq => exact YlA)) | refine Vr ?_ | refine Vt ?_ | refine Vf ?_ | refine Vm ?_ | refine Ve ?_ | refine Vo ?_ | refine Vz ?_ | refine Vn ?_)
      have e1 : (y : Int) / 2 ^ (8 : Int).toNat = ((y / 256 : Nat) : Int) := by rw [p8]; omega
      rw [e1]
      have := Lib.bitLen_shift8 y (by omega) (by omega)
      exact ⟨(y / 256, e + 8), (by repeat (first | exact trivial | refine ⟨rfl, ?_⟩)), rfl, by dsimp only; omega, by dsimp only; omega, by dsimp only; omega⟩
    · replace h := of_decide_eq_false h
      repeat (first | refine Vx ?_ | (apply Ops_q; (case hon => exact Va); (case hd => rfl); (case hq => exact YlA)) | refine Vr ?_ | refine Vt ?_ | refine Vf ?_ | refine Vm ?_ | refine Ve ?_ | refine Vo ?_ | refine Vz ?_ | refine Vn ?_)
      exact ⟨(y, e), (by repeat (first | exact trivial | refine ⟨rfl, ?_⟩)), rfl, by dsimp only; omega, by dsimp only; omega, h3⟩
  clear h1 h2 h3 y e
  rintro ⟨y, e⟩ _ ⟨rfl, h1, h2, h3⟩
  dsimp only at h1 h2 h3 ⊢
  have h8 := Lib.bitLen_le y 8 (by omega) (by omega)
  repeat (first | refine Vx ?_ | (apply Ops_q; (case hon => exact Va); (case hd => rfl); (case hq => exact YlA)) | refine Vr ?_ | refine Vt ?_ | refine Vf ?_ | refine Vm ?_ | refine Ve ?_ | refine Vo ?_ | refine Vz ?_ | refine Vn ?_)
  (apply Ops_q; (case hon => (first | exact on_none | exact on_guard rfl rfl)); (case hd => rfl); (case hq => exact Yl_len8 (by kernel_rfl) rfl rfl (by omega)))
  repeat (first | refine Vx ?_ | (apply Ops_q; (case hon => exact Va); (case hd => rfl); (case hq => exact YlA)) | refine Vr ?_ | refine Vt ?_ | refine Vf ?_ | refine Vm ?_ | refine Ve ?_ | refine Vo ?_ | refine Vz ?_ | refine Vn ?_)
  refine ret1 (by first | exact .inl rfl | exact .inr rfl) rfl rfl ?_
  exact Ret_w (by rw [h3]; rfl) (Ext.refl _)
theorem lenI_v (x : Nat) (w : World) (hx : x < 18446744073709551616) : Calls Try.prog 98 #[.int .u64 x] w (Ret (.int .i64 (Lib.bitLen x : Nat)) w) := by
  refine V_enter (vs := [_]) Try.func98 rfl Try.ntmps98 (Nat.le_of_ble_eq_true rfl) ?_
  repeat (first | refine Vx ?_ | (apply Ops_q; (case hon => exact Va); (case hd => rfl); (case hq => exact YlA)) | refine Vr ?_ | refine Vt ?_ | refine Vf ?_ | refine Vm ?_ | refine Ve ?_ | refine Vo ?_ | refine Vz ?_ | refine Vn ?_)
  (apply Ops_q; (case hon => (exact Va)); (case hd => rfl); (case hq => exact Yl_call rfl (fun w_ e_ => lenU_v x w_ hx)))
  repeat (first | refine Vx ?_ | (apply Ops_q; (case hon => exact Va); (case hd => rfl); (case hq => exact YlA)) | refine Vr ?_ | refine Vt ?_ | refine Vf ?_ | refine Vm ?_ | refine Ve ?_ | refine Vo ?_ | refine Vz ?_ | refine Vn ?_)
  refine ret1 (by first | exact .inl rfl | exact .inr rfl) rfl rfl ?_
  exact Ret_w rfl (Ext.refl _)
theorem nextPow_v (x : Nat) (w : World) (hx : x ≤ 1000000000000) : Calls Try.prog 123 #[.int .i64 x] w (Ret (.int .u64 (2 ^ Lib.bitLen x : Nat)) w) := by
  have hl := Lib.bitLen_le x 40 (by omega) (by omega)
  have hp : 2 ^ Lib.bitLen x ≤ 2 ^ 40 := Nat.pow_le_pow_right (by omega) hl
  have e : (1 : Int) * 2 ^ ((Lib.bitLen x : Nat) : Int).toNat = ((2 ^ Lib.bitLen x : Nat) : Int) := by rw [Int.one_mul, Int.toNat_natCast, Int.natCast_pow]; rfl
  have hk : InK .u64 ((1 : Int) * 2 ^ ((Lib.bitLen x : Nat) : Int).toNat) := by
    rw [e]
    generalize 2 ^ Lib.bitLen x = q at hp ⊢
    simp only [InK]; omega
  refine V_enter (vs := [_]) Try.func123 rfl Try.ntmps123 (Nat.le_of_ble_eq_true rfl) ?_
  repeat (first | refine Vx ?_ | (apply Ops_q; (case hon => exact Va); (case hd => rfl); (case hq => exact YlA)) | refine Vr ?_ | refine Vt ?_ | refine Vf ?_ | refine Vm ?_ | refine Ve ?_ | refine Vo ?_ | refine Vz ?_ | refine Vn ?_)
  (apply Ops_q; (case hon => (exact Va)); (case hd => rfl); (case hq => exact Yl_call rfl (fun w_ e_ => lenI_v x w_ (by omega))))
  repeat (first | refine Vx ?_ | (apply Ops_q; (case hon => exact Va); (case hd => rfl); (case hq => exact YlA)) | refine Vr ?_ | refine Vt ?_ | refine Vf ?_ | refine Vm ?_ | refine Ve ?_ | refine Vo ?_ | refine Vz ?_ | refine Vn ?_)
  refine ret1 (by first | exact .inl rfl | exact .inr rfl) rfl rfl ?_
  exact Ret_w (by rw [e]) (Ext.refl _)
theorem next_v (b : Nat) (t : TypeId) (v : Int) (w : World) (hB : Blk w b t [.int .u64 v]) :
    Calls Try.prog 124 #[.pointer (some ⟨b, 0, none⟩)] w (Does (fun c => c = b) (fun r w' => ∃ v' : Int, r = .int .u64 v' ∧ Blk w' b t [.int .u64 v']) w) := by
  refine V_enter (vs := [_]) Try.func124 rfl Try.ntmps124 (Nat.le_of_ble_eq_true rfl) ?_
  repeat (first | refine Vx ?_ | (apply Ops_q; (case hon => exact Va); (case hd => rfl); (case hq => exact YlA)) | refine Vt ?_ | refine Vf ?_ | refine Vm ?_ | refine Ve ?_ | refine Vo ?_ | refine Vz ?_ | refine Vn ?_)
  refine V_region_mixed 9 (by kernel_rfl) (by kernel_rfl) rfl ?_
  repeat (first | refine Vx ?_ | (apply Ops_q; (case hon => exact Va); (case hd => rfl); (case hq => exact YlA)) | refine Vr ?_ | refine Vt ?_ | refine Vf ?_ | refine Vm ?_ | refine Ve ?_ | refine Vo ?_ | refine Vz ?_ | refine Vn ?_)
  (refine Ops_store (by exact Va) rfl rfl hB (by rfl) ?_; intro w1 u1)
  have k1 := u1.blk
  have m1 : Mod (fun c => c = b) w w1 := (Mod.of_ext (S := fun c => c = b) (Ext.refl _)).upd u1 (.inl rfl)
  clear u1
  repeat (first | refine Vx ?_ | (apply Ops_q; (case hon => exact Va); (case hd => rfl); (case hq => exact YlA)) | refine Vt ?_ | refine Vf ?_ | refine Vm ?_ | refine Ve ?_ | refine Vo ?_ | refine Vz ?_ | refine Vn ?_)
  refine V_region_mixed 9 (by kernel_rfl) (by kernel_rfl) rfl ?_
  repeat (first | refine Vx ?_ | (apply Ops_q; (case hon => exact Va); (case hd => rfl); (case hq => exact YlA)) | refine Vr ?_ | refine Vt ?_ | refine Vf ?_ | refine Vm ?_ | refine Ve ?_ | refine Vo ?_ | refine Vz ?_ | refine Vn ?_)
  (refine Ops_store (by exact Va) rfl rfl k1 (by rfl) ?_; intro w2 u2)
  have k2 := u2.blk
  have m2 := m1.upd u2 (.inl rfl)
  clear u2 k1 m1
  repeat (first | refine Vx ?_ | (apply Ops_q; (case hon => exact Va); (case hd => rfl); (case hq => exact YlA)) | refine Vt ?_ | refine Vf ?_ | refine Vm ?_ | refine Ve ?_ | refine Vo ?_ | refine Vz ?_ | refine Vn ?_)
  refine V_region_mixed 9 (by kernel_rfl) (by kernel_rfl) rfl ?_
  repeat (first | refine Vx ?_ | (apply Ops_q; (case hon => exact Va); (case hd => rfl); (case hq => exact YlA)) | refine Vr ?_ | refine Vt ?_ | refine Vf ?_ | refine Vm ?_ | refine Ve ?_ | refine Vo ?_ | refine Vz ?_ | refine Vn ?_)
  (refine Ops_store (by exact Va) rfl rfl k2 (by rfl) ?_; intro w3 u3)
  have k3 := u3.blk
  have m3 := m2.upd u3 (.inl rfl)
  clear u3 k2 m2
  repeat (first | refine Vx ?_ | (apply Ops_q; (case hon => exact Va); (case hd => rfl); (case hq => exact YlA)) | refine Vr ?_ | refine Vt ?_ | refine Vf ?_ | refine Vm ?_ | refine Ve ?_ | refine Vo ?_ | refine Vz ?_ | refine Vn ?_)
  refine ret1 (by first | exact .inl rfl | exact .inr rfl) rfl rfl ?_
  exact Does_mk (fun w' he => ⟨_, rfl, k3.ext he⟩) m3
theorem and_le (x : Int) (m : Nat) (hm : m < 18446744073709551616) : ∃ c : Nat, bits .and .u64 x m = c ∧ c ≤ m := by
  have e : (BitVec.ofInt 64 (m : Int)).toNat = m := by rw [BitVec.toNat_ofInt]; omega
  have h := Nat.and_le_right (n := (BitVec.ofInt 64 x).toNat) (m := (BitVec.ofInt 64 (m : Int)).toNat)
  rw [← BitVec.toNat_and] at h
  refine ⟨_, wrap_in (k := .u64) ⟨?_, ?_⟩, Nat.le_trans h (Nat.le_of_eq e)⟩
  · exact Int.natCast_nonneg _
  · have this : (BitVec.ofInt 64 x &&& BitVec.ofInt 64 (m : Int)).toNat < 18446744073709551616 := BitVec.isLt _
    exact Int.ofNat_le.2 (Nat.le_of_lt_succ this)
section
variable {base g n cap : Nat}
set_option maxHeartbeats 2000000 in
theorem breakU_v (L : List Int) (a b : Nat) (w : World) (hD : DatU w base g n cap L) (hn : n ≤ 1000000000000) (hb : b ≤ n) (hab : a + 12 < b) :
    Calls Try.prog 112 #[.slice (some ⟨g, 0, none⟩) n cap, .int .i64 a, .int .i64 b] w
      (Does (BlkU g) (DatV base g n cap (fun r L' => r = .tuple #[] ∧ Moved L L' a b)) w) := by
  have hg := hD.own.lt (b := g) rfl
  obtain ⟨l, rfl⟩ : ∃ l, b = a + l := ⟨b - a, by omega⟩
  have hl : ((a + l : Nat) : Int) - (a : Int) = (l : Int) := by omega
  obtain ⟨z, hz⟩ : ∃ z, a + l / 4 * 2 = z + 1 := ⟨a + l / 4 * 2 - 1, by omega⟩
  have ez : (a : Int) + (l : Int) / 4 * 2 = ((z + 1 : Nat) : Int) := by omega
  have e1 : ((z + 1 : Nat) : Int) - 1 = (z : Int) := by omega
  obtain ⟨hm1, hm2⟩ := bitLen_spec l (by omega)
  have hm2 := hm2 (by omega)
  have hnp := fun w_ => nextPow_v l w_ (by omega)
  obtain ⟨m1, hmd⟩ : ∃ m1, 2 ^ Lib.bitLen l = m1 + 1 := ⟨2 ^ Lib.bitLen l - 1, by omega⟩
  rw [hmd] at hm1 hm2 hnp
  have e2 : ((m1 + 1 : Nat) : Int) - 1 = (m1 : Int) := by omega
  refine V_enter (vs := [_, _, _]) Try.func112 rfl Try.ntmps112 (Nat.le_of_ble_eq_true rfl) ?_
  repeat (first | refine Vx ?_ | (apply Ops_q; (case hon => exact Va); (case hd => rfl); (case hq => exact YlA)) | refine Vr ?_ | refine Vt ?_ | refine Vf ?_ | refine Vm ?_ | refine Ve ?_ | refine Vo ?_ | refine Vz ?_ | refine Vn ?_)
  rw [hl]
  refine V_yes rfl (decide_eq_true (by omega : (8 : Int) ≤ (l : Int))) ?_
  repeat (first | refine Vx ?_ | (apply Ops_q; (case hon => exact Va); (case hd => rfl); (case hq => exact YlA)) | refine Vr ?_ | refine Vt ?_ | refine Vf ?_ | refine Vm ?_ | refine Ve ?_ | refine Vo ?_ | refine Vz ?_ | refine Vn ?_)
  (refine Ops_alloc (by exact Va) rfl ?_; intro w1 br n_br; have k_br := n_br.blk)
  have hgb : g ≠ br := by have := n_br.ge; omega
  have hbw := n_br.ge
  repeat (first | refine Vx ?_ | (apply Ops_q; (case hon => exact Va); (case hd => rfl); (case hq => exact YlA)) | refine Vr ?_ | refine Vt ?_ | refine Vf ?_ | refine Vm ?_ | refine Ve ?_ | refine Vo ?_ | refine Vz ?_ | refine Vn ?_)
  (refine Ops_store (by exact Va) rfl rfl (by assumption) (by first | rfl | exact OneAll.h) ?_; intro w2 u_w2; have k_br := u_w2.blk)
  have m2 : Mod (BlkU g) w w2 := (Mod.of_ext n_br.ext).upd u_w2 (.inr hbw)
  have D2 : DatU w2 base g n cap L := (hD.ext n_br.ext).mod ((Mod.of_ext (S := fun c => c = br) (Ext.refl _)).upd u_w2 (.inl rfl)) hgb
  clear u_w2
  repeat (first | refine Vx ?_ | (apply Ops_q; (case hon => exact Va); (case hd => rfl); (case hq => exact YlA)) | refine Vr ?_ | refine Vt ?_ | refine Vf ?_ | refine Vm ?_ | refine Ve ?_ | refine Vo ?_ | refine Vz ?_ | refine Vn ?_)
  (apply Ops_q; (case hon => (exact Va)); (case hd => rfl); (case hq => exact Yl_call rfl (fun w_ e_ => hnp w_)))
  repeat (first | refine Vx ?_ | (apply Ops_q; (case hon => exact Va); (case hd => rfl); (case hq => exact YlA)) | refine Vr ?_ | refine Vt ?_ | refine Vf ?_ | refine Vm ?_ | refine Ve ?_ | refine Vo ?_ | refine Vz ?_ | refine Vn ?_)
  rw [ez]
  repeat (first | refine Vx ?_ | (apply Ops_q; (case hon => exact Va); (case hd => rfl); (case hq => exact YlA)) | refine Vr ?_ | refine Vt ?_ | refine Vf ?_ | refine Vm ?_ | refine Ve ?_ | refine Vo ?_ | refine Vz ?_ | refine Vn ?_)
  rw [e1]
  refine V_loop (fun s : Nat × List Int × Int => [(9, .int .i64 s.1), (8, .int .u64 (m1 + 1 : Nat)), (7, .pointer (some ⟨br, 0, none⟩)), (6, .int .i64 l), (0, .slice (some ⟨g, 0, none⟩) n cap), (1, .int .i64 a)])
    (fun s w' => z ≤ s.1 ∧ s.1 ≤ z + 3 ∧ Mod (BlkU g) w w' ∧ DatU w' base g n cap s.2.1 ∧ Moved L s.2.1 a (a + l) ∧ Blk w' br 175 [.int .u64 s.2.2]) (fun s => z + 3 - s.1) (z, L, l) (by repeat (first | exact trivial | refine ⟨rfl, ?_⟩))
    ⟨Nat.le_refl _, by dsimp only; omega, m2, D2, Moved.refl .., k_br⟩ ?_
  clear m2 D2 k_br hD n_br
  rintro ⟨i, M, v⟩ w3 ⟨h1, h2, m3, D3, hM, k3⟩
  dsimp only at h1 h2 D3 hM k3 ⊢
  repeat (first | refine Vx ?_ | (apply Ops_q; (case hon => exact Va); (case hd => rfl); (case hq => exact YlA)) | refine Vr ?_ | refine Vt ?_ | refine Vf ?_ | refine Vm ?_ | refine Ve ?_ | refine Vo ?_ | refine Vz ?_ | refine Vn ?_)
  rw [ez]
  repeat (first | refine Vx ?_ | (apply Ops_q; (case hon => exact Va); (case hd => rfl); (case hq => exact YlA)) | refine Vr ?_ | refine Vt ?_ | refine Vf ?_ | refine Vm ?_ | refine Ve ?_ | refine Vo ?_ | refine Vz ?_ | refine Vn ?_)
  refine V_cond rfl (fun hi => ?_) (fun hi => ?_)
  · replace hi := of_decide_eq_true hi
    repeat (first | refine Vx ?_ | (apply Ops_q; (case hon => exact Va); (case hd => rfl); (case hq => exact YlA)) | refine Vr ?_ | refine Vt ?_ | refine Vf ?_ | refine Vm ?_ | refine Ve ?_ | refine Vo ?_ | refine Vz ?_ | refine Vn ?_)
    refine Ops_callM (S := fun c => c = br) (R := fun _ r w' => ∃ v' : Int, r = .int .u64 v' ∧ Blk w' br 175 [.int .u64 v']) (by exact Va) rfl rfl (fun w_ e_ => next_v br 175 v w_ (k3.ext e_)) ?_
    intro r w4 w0_ e0 m4 hR
    obtain ⟨v', rfl, k4⟩ := hR
    have D4 := (D3.ext e0).mod m4 hgb
    have m40 : Mod (BlkU g) w w4 := (m3.ext e0).trans' m4 (fun c hc => .inr (by rw [hc]; exact hbw))
    clear m3 D3 k3 m4 e0
    obtain ⟨c, hc, hcm⟩ := and_le v' m1 (by omega)
    repeat (first | refine Vx ?_ | (apply Ops_q; (case hon => exact Va); (case hd => rfl); (case hq => exact YlA)) | refine Vr ?_ | refine Vt ?_ | refine Vf ?_ | refine Vm ?_ | refine Ve ?_ | refine Vo ?_ | refine Vz ?_ | refine Vn ?_)
    rw [e2]
    repeat (first | refine Vx ?_ | (apply Ops_q; (case hon => exact Va); (case hd => rfl); (case hq => exact YlA)) | refine Vr ?_ | refine Vt ?_ | refine Vf ?_ | refine Vm ?_ | refine Ve ?_ | refine Vo ?_ | refine Vz ?_ | refine Vn ?_)
    rw [hc, wrap_in (show InK .i64 (c : Int) by simp only [InK]; omega)]
    repeat (first | refine Vx ?_ | (apply Ops_q; (case hon => exact Va); (case hd => rfl); (case hq => exact YlA)) | refine Vr ?_ | refine Vt ?_ | refine Vf ?_ | refine Vm ?_ | refine Ve ?_ | refine Vo ?_ | refine Vz ?_ | refine Vn ?_)
    refine V_meet1 (fun o : Nat => [(10, .int .i64 o), (9, .int .i64 i), (8, .int .u64 (m1 + 1 : Nat)), (7, .pointer (some ⟨br, 0, none⟩)), (6, .int .i64 l), (0, .slice (some ⟨g, 0, none⟩) n cap), (1, .int .i64 a)])
      (fun o w' => w4 = w' ∧ o < l) ?_ ?_
    · refine V_cond rfl (fun h5 => ?_) (fun h5 => ?_)
      · replace h5 := of_decide_eq_true h5
        repeat (first | refine Vx ?_ | (apply Ops_q; (case hon => exact Va); (case hd => rfl); (case hq => exact YlA)) | refine Vr ?_ | refine Vt ?_ | refine Vf ?_ | refine Vm ?_ | refine Ve ?_ | refine Vo ?_ | refine Vz ?_ | refine Vn ?_)
        have e3 : (c : Int) - (l : Int) = ((c - l : Nat) : Int) := by omega
        rw [e3]
        exact ⟨c - l, (by repeat (first | exact trivial | refine ⟨rfl, ?_⟩)), rfl, by omega⟩
      · replace h5 := of_decide_eq_false h5
        repeat (first | refine Vx ?_ | (apply Ops_q; (case hon => exact Va); (case hd => rfl); (case hq => exact YlA)) | refine Vr ?_ | refine Vt ?_ | refine Vf ?_ | refine Vm ?_ | refine Ve ?_ | refine Vo ?_ | refine Vz ?_ | refine Vn ?_)
        exact ⟨c, (by repeat (first | exact trivial | refine ⟨rfl, ?_⟩)), rfl, by omega⟩
    rintro o _ ⟨rfl, ho⟩
    have hMl := D4.len
    obtain ⟨x, hx⟩ := D4.get (k := i) (by omega)
    obtain ⟨y, hy⟩ := D4.get (k := a + o) (by omega)
    have hcx := D4.at hx
    have hcy := D4.at hy
    have e5 : (a : Int) + (o : Int) = ((a + o : Nat) : Int) := by omega
    repeat (first | refine Vx ?_ | (apply Ops_q; (case hon => exact Va); (case hd => rfl); (case hq => exact YlA)) | refine Vt ?_ | refine Vf ?_ | refine Vm ?_ | refine Ve ?_ | refine Vo ?_ | refine Vz ?_ | refine Vn ?_)
    refine V_store (R := fun w' => DatU w' base g n cap (M.set i y) ∧ Mod (fun c => c = g) w4 w') 18 17 (fun _ _ he h => ⟨h.1.ext he, h.2.ext he⟩) (by kernel_rfl) rfl (by kernel_rfl) ?_
    repeat (first
      | (refine YsS.pure rfl rfl rfl rfl rfl (fun w_ => (by first | exact Yl_move rfl | exact Yl_pred rfl rfl (by omega) | exact Yl_arith_in rfl rfl rfl (by first | assumption | (simp only [InK]; omega)))) ?_)
      | (refine YsS.load rfl rfl rfl rfl rfl (by first | exact Yl_load rfl hcx | exact Yl_load rfl hcy) ?_))
    refine YsS.pure rfl rfl rfl rfl rfl (fun w_ => Yl_indexS (j := (a+o)) rfl rfl (by omega)) ?_
    repeat (first
      | (refine YsS.pure rfl rfl rfl rfl rfl (fun w_ => (by first | exact Yl_move rfl | exact Yl_pred rfl rfl (by omega) | exact Yl_arith_in rfl rfl rfl (by first | assumption | (simp only [InK]; omega)))) ?_)
      | (refine YsS.load rfl rfl rfl rfl rfl (by first | exact Yl_load rfl hcx | exact Yl_load rfl hcy) ?_))
    refine YsS.pure rfl rfl rfl rfl rfl (fun w_ => Yl_indexS (j := i) rfl rfl (by omega)) ?_
    repeat (first
      | (refine YsS.pure rfl rfl rfl rfl rfl (fun w_ => (by first | exact Yl_move rfl | exact Yl_pred rfl rfl (by omega) | exact Yl_arith_in rfl rfl rfl (by first | assumption | (simp only [InK]; omega)))) ?_)
      | (refine YsS.load rfl rfl rfl rfl rfl (by first | exact Yl_load rfl hcx | exact Yl_load rfl hcy) ?_))
    refine YsS.pure rfl rfl rfl rfl rfl (fun w_ => Yl_indexS (j := i) rfl rfl (by omega)) ?_
    refine YsS.nil rfl ⟨fun a_ ag_ w_ hw_ => storeDatU_run (i := i) (v := y) rfl rfl rfl D4 (by omega) a_ ag_ w_ hw_, ?_⟩
    repeat (first
      | (refine YsS.pure rfl rfl rfl rfl rfl (fun w_ => (by first | exact Yl_move rfl | exact Yl_pred rfl rfl (by omega) | exact Yl_arith_in rfl rfl rfl (by first | assumption | (simp only [InK]; omega)))) ?_)
      | (refine YsS.load rfl rfl rfl rfl rfl (by first | exact Yl_load rfl hcx | exact Yl_load rfl hcy) ?_))
    refine YsS.nil rfl ?_
    rintro w5 ⟨D5, m5⟩
    repeat (first | refine Vx ?_ | (apply Ops_q; (case hon => exact Va); (case hd => rfl); (case hq => exact YlA)) | refine Vr ?_ | refine Vt ?_ | refine Vf ?_ | refine Vm ?_ | refine Ve ?_ | refine Vo ?_ | refine Vz ?_ | refine Vn ?_)
    rw [e5]
    (apply Ops_q; (case hon => (exact Va)); (case hd => rfl); (case hq => exact Yl_indexS (j := (a + o)) rfl rfl (by omega)))
    repeat (first | refine Vx ?_ | (apply Ops_q; (case hon => exact Va); (case hd => rfl); (case hq => exact YlA)) | refine Vr ?_ | refine Vt ?_ | refine Vf ?_ | refine Vm ?_ | refine Ve ?_ | refine Vo ?_ | refine Vz ?_ | refine Vn ?_)
    refine Ops_storeDatU (i := a + o) (v := x) (by exact Va) rfl rfl rfl D5 (by omega) ?_
    intro w6 D6 g6
    have m46 : Mod (BlkU g) w4 w6 := m5.grow g6 (fun b hb => .inl (by cases hb; rfl))
    have k6 := m46.blk k4 (fun e => hgb e.symm)
    have hsw : (M.set i y).set (a + o) x = swp M i (a + o) := by unfold swp; rw [hx, hy]
    rw [hsw] at D6
    repeat (first | refine Vx ?_ | (apply Ops_q; (case hon => exact Va); (case hd => rfl); (case hq => exact YlA)) | refine Vr ?_ | refine Vt ?_ | refine Vf ?_ | refine Vm ?_ | refine Ve ?_ | refine Vo ?_ | refine Vz ?_ | refine Vn ?_)
    refine ⟨(i + 1, swp M i (a + o), v'), (by repeat (first | exact trivial | refine ⟨rfl, ?_⟩)), ⟨by dsimp only; omega, by dsimp only; omega, m40.trans m46, D6, hM.trans (Moved.swp (by omega) (by omega) (by omega)), k6⟩, by simp only; omega⟩
  · repeat (first | refine Vx ?_ | (apply Ops_q; (case hon => exact Va); (case hd => rfl); (case hq => exact YlA)) | refine Vr ?_ | refine Vt ?_ | refine Vf ?_ | refine Vm ?_ | refine Ve ?_ | refine Vo ?_ | refine Vz ?_ | refine Vn ?_)
    refine ret0 (by first | exact .inl rfl | exact .inr rfl) rfl ?_
    exact Does_mk (fun w' he => ⟨M, D3.ext he, rfl, hM⟩) m3
end
end Go.Proofs.Ytjpnaofoeeegeaa

/-
  Sorting words (slices.Sort at uint64): pdqsort, Sort.
  Conditions: the list is one's own, and not too long for a machine.
-/
namespace Go.Proofs.Ytjpnaofoeeegeaa
open Go.RowKit

section
variable {base g n cap : Nat}
set_option maxHeartbeats 4000000 in
theorem pdqU_v (hn : n ≤ 1000000000000) : ∀ (k : Nat) (L : List Int) (a0 b0 lim0 : Nat) (w : World), b0 - a0 ≤ k → DatU w base g n cap L → b0 ≤ n → a0 ≤ b0 → Pre2 L a0 b0 → lim0 ≤ 64 →
    Calls Try.prog 97 #[.slice (some ⟨g, 0, none⟩) n cap, .int .i64 a0, .int .i64 b0, .int .i64 lim0] w
      (Does (BlkU g) (DatV base g n cap (fun r L' => r = .tuple #[] ∧ Moved L L' a0 b0 ∧ Asc ltU L' a0 b0)) w) := by
  intro k
  induction k using Nat.strongRecOn with
  | ind k ih =>
  intro L a0 b0 lim0 w hk hD hb0 hab0 hpre hlim
  refine V_enter (vs := [_, _, _, _]) Try.func97 rfl Try.ntmps97 (Nat.le_of_ble_eq_true rfl) ?_
  repeat (first | refine Vx ?_ | (apply Ops_q; (case hon => exact Va); (case hd => rfl); (case hq => exact YlA)) | refine Vr ?_ | refine Vt ?_ | refine Vf ?_ | refine Vm ?_ | refine Ve ?_ | refine Vo ?_ | refine Vz ?_ | refine Vn ?_)
  refine V_loop (fun s : Nat × Nat × Nat × Bool × Bool × List Int => [(1, .int .i64 s.1), (2, .int .i64 s.2.1), (3, .int .i64 s.2.2.1), (8, .bool s.2.2.2.1), (9, .bool s.2.2.2.2.1), (0, .slice (some ⟨g, 0, none⟩) n cap)])
    (fun s w' => s.2.2.1 ≤ 64 ∧ Mod (BlkU g) w w' ∧ DatU w' base g n cap s.2.2.2.2.2 ∧ PdS ltU L s.2.2.2.2.2 a0 s.1 s.2.1 b0) (fun s => s.2.1 - s.1) (a0, b0, lim0, true, true, L) (by repeat (first | exact trivial | refine ⟨rfl, ?_⟩))
    ⟨hlim, .of_ext (Ext.refl _), hD, PdS.start hab0 hpre⟩ ?_
  clear hD hab0 hpre hlim
  rintro ⟨a, b, lim, bal, part, M⟩ w3 ⟨hlim, m3, D3, hP⟩
  dsimp only at hlim D3 hP ⊢
  have hab := hP.h2
  have ha0 := hP.h1
  have hbb := hP.h3
  obtain ⟨l, hbl⟩ : ∃ l, b = a + l := ⟨b - a, by omega⟩
  have hl : (b : Int) - (a : Int) = (l : Int) := by omega
  repeat (first | refine Vx ?_ | (apply Ops_q; (case hon => exact Va); (case hd => rfl); (case hq => exact YlA)) | refine Vr ?_ | refine Vt ?_ | refine Vf ?_ | refine Vm ?_ | refine Ve ?_ | refine Vo ?_ | refine Vz ?_ | refine Vn ?_)
  rw [hl]
  refine V_cond rfl (fun h12 => ?_) (fun h12 => ?_)
  · replace h12 := of_decide_eq_true h12
    repeat (first | refine Vx ?_ | (apply Ops_q; (case hon => exact Va); (case hd => rfl); (case hq => exact YlA)) | refine Vr ?_ | refine Vt ?_ | refine Vf ?_ | refine Vm ?_ | refine Ve ?_ | refine Vo ?_ | refine Vz ?_ | refine Vn ?_)
    refine Ops_callM (S := BlkU g) (R := fun _ => DatV base g n cap (fun r L' => r = .tuple #[] ∧ Moved M L' a b ∧ Asc ltU L' a b)) (by exact Va) rfl rfl (fun w_ e_ => insertionU_v M a b w_ (D3.ext e_) hn (by omega) (by omega)) ?_
    intro r w5 w0_ e0 m5 hR
    obtain ⟨M5, D5, rfl, hM5, hA5⟩ := hR
    repeat (first | refine Vx ?_ | (apply Ops_q; (case hon => exact Va); (case hd => rfl); (case hq => exact YlA)) | refine Vr ?_ | refine Vt ?_ | refine Vf ?_ | refine Vm ?_ | refine Ve ?_ | refine Vo ?_ | refine Vz ?_ | refine Vn ?_)
    refine ret0 (by first | exact .inl rfl | exact .inr rfl) rfl ?_
    exact Does_mk (fun w' he => ⟨_, D5.ext he, rfl, (hP.move hM5).mv, (hP.move hM5).fin hA5⟩) ((m3.ext e0).trans m5)
  replace h12 := of_decide_eq_false h12
  repeat (first | refine Vx ?_ | (apply Ops_q; (case hon => exact Va); (case hd => rfl); (case hq => exact YlA)) | refine Vr ?_ | refine Vt ?_ | refine Vf ?_ | refine Vm ?_ | refine Ve ?_ | refine Vo ?_ | refine Vz ?_ | refine Vn ?_)
  refine V_cond rfl (fun h0 => ?_) (fun h0 => ?_)
  · repeat (first | refine Vx ?_ | (apply Ops_q; (case hon => exact Va); (case hd => rfl); (case hq => exact YlA)) | refine Vr ?_ | refine Vt ?_ | refine Vf ?_ | refine Vm ?_ | refine Ve ?_ | refine Vo ?_ | refine Vz ?_ | refine Vn ?_)
    refine Ops_callM (S := BlkU g) (R := fun _ => DatV base g n cap (fun r L' => r = .tuple #[] ∧ Moved M L' a b ∧ Asc ltU L' a b)) (by exact Va) rfl rfl (fun w_ e_ => heapU_v M a b w_ (D3.ext e_) hn (by omega) (by omega)) ?_
    intro r w5 w0_ e0 m5 hR
    obtain ⟨M5, D5, rfl, hM5, hA5⟩ := hR
    repeat (first | refine Vx ?_ | (apply Ops_q; (case hon => exact Va); (case hd => rfl); (case hq => exact YlA)) | refine Vr ?_ | refine Vt ?_ | refine Vf ?_ | refine Vm ?_ | refine Ve ?_ | refine Vo ?_ | refine Vz ?_ | refine Vn ?_)
    refine ret0 (by first | exact .inl rfl | exact .inr rfl) rfl ?_
    exact Does_mk (fun w' he => ⟨_, D5.ext he, rfl, (hP.move hM5).mv, (hP.move hM5).fin hA5⟩) ((m3.ext e0).trans m5)
  replace h0 := of_decide_eq_false h0
  repeat (first | refine Vx ?_ | (apply Ops_q; (case hon => exact Va); (case hd => rfl); (case hq => exact YlA)) | refine Vr ?_ | refine Vt ?_ | refine Vf ?_ | refine Vm ?_ | refine Ve ?_ | refine Vo ?_ | refine Vz ?_ | refine Vn ?_)
  refine V_meet1 (fun s : Nat × List Int => [(1, .int .i64 a), (2, .int .i64 b), (3, .int .i64 s.1), (8, .bool bal), (9, .bool part), (10, .int .i64 l), (0, .slice (some ⟨g, 0, none⟩) n cap)])
    (fun s w' => s.1 ≤ 64 ∧ Mod (BlkU g) w w' ∧ DatU w' base g n cap s.2 ∧ PdS ltU L s.2 a0 a b b0) ?_ ?_
  · refine V_cond rfl (fun hb => ?_) (fun hb => ?_)
    · obtain ⟨lm, rfl⟩ : ∃ q, lim = q + 1 := ⟨lim - 1, by omega⟩
      have el : ((lm + 1 : Nat) : Int) - 1 = (lm : Int) := by omega
      repeat (first | refine Vx ?_ | (apply Ops_q; (case hon => exact Va); (case hd => rfl); (case hq => exact YlA)) | refine Vr ?_ | refine Vt ?_ | refine Vf ?_ | refine Vm ?_ | refine Ve ?_ | refine Vo ?_ | refine Vz ?_ | refine Vn ?_)
      refine Ops_callM (S := BlkU g) (R := fun _ => DatV base g n cap (fun r L' => r = .tuple #[] ∧ Moved M L' a b)) (by exact Va) rfl rfl (fun w_ e_ => breakU_v M a b w_ (D3.ext e_) hn (by omega) (by omega)) ?_
      intro r w5 w0_ e0 m5 hR
      obtain ⟨M5, D5, rfl, hM5⟩ := hR
      repeat (first | refine Vx ?_ | (apply Ops_q; (case hon => exact Va); (case hd => rfl); (case hq => exact YlA)) | refine Vr ?_ | refine Vt ?_ | refine Vf ?_ | refine Vm ?_ | refine Ve ?_ | refine Vo ?_ | refine Vz ?_ | refine Vn ?_)
      rw [el]
      exact ⟨(lm, M5), (by repeat (first | exact trivial | refine ⟨rfl, ?_⟩)), by dsimp only; omega, (m3.ext e0).trans m5, D5, hP.move hM5⟩
    · repeat (first | refine Vx ?_ | (apply Ops_q; (case hon => exact Va); (case hd => rfl); (case hq => exact YlA)) | refine Vr ?_ | refine Vt ?_ | refine Vf ?_ | refine Vm ?_ | refine Ve ?_ | refine Vo ?_ | refine Vz ?_ | refine Vn ?_)
      exact ⟨(lim, M), (by repeat (first | exact trivial | refine ⟨rfl, ?_⟩)), hlim, m3, D3, hP⟩
  clear hlim m3 D3 hP h0
  rintro ⟨lim, M⟩ w3 ⟨hlim, m3, D3, hP⟩
  dsimp only at hlim D3 hP ⊢
  repeat (first | refine Vx ?_ | (apply Ops_q; (case hon => exact Va); (case hd => rfl); (case hq => exact YlA)) | refine Vr ?_ | refine Vt ?_ | refine Vf ?_ | refine Vm ?_ | refine Ve ?_ | refine Vo ?_ | refine Vz ?_ | refine Vn ?_)
  (refine Ops_callR (by exact Va) rfl rfl (fun w_ e_ => choosePivot_v M a b w_ (D3.ext e_) hn (by omega) (by omega)) ?_; intro v w4 w0_ e0_ e1_ r_v; have e_w4 := e0_.trans e1_; have b_v := e0_.size; clear e0_ e1_)
  obtain ⟨p, h, rfl, hp1, hp2⟩ := r_v
  have D4 := D3.ext e_w4
  have m4 := m3.ext e_w4
  clear D3 m3 e_w4 b_v
  repeat (first | refine Vx ?_ | (apply Ops_q; (case hon => exact Va); (case hd => rfl); (case hq => exact YlA)) | refine Vr ?_ | refine Vt ?_ | refine Vf ?_ | refine Vm ?_ | refine Ve ?_ | refine Vo ?_ | refine Vz ?_ | refine Vn ?_)
  refine V_meet1 (fun s : Nat × Int × List Int => [(11, .int .i64 s.1), (12, .int .i64 s.2.1), (1, .int .i64 a), (2, .int .i64 b), (3, .int .i64 lim), (8, .bool bal), (9, .bool part), (10, .int .i64 l), (0, .slice (some ⟨g, 0, none⟩) n cap)])
    (fun s w' => a ≤ s.1 ∧ s.1 < b ∧ Mod (BlkU g) w w' ∧ DatU w' base g n cap s.2.2 ∧ PdS ltU L s.2.2 a0 a b b0) ?_ ?_
  · refine V_cond rfl (fun hh => ?_) (fun hh => ?_)
    · repeat (first | refine Vx ?_ | (apply Ops_q; (case hon => exact Va); (case hd => rfl); (case hq => exact YlA)) | refine Vr ?_ | refine Vt ?_ | refine Vf ?_ | refine Vm ?_ | refine Ve ?_ | refine Vo ?_ | refine Vz ?_ | refine Vn ?_)
      refine Ops_callM (S := BlkU g) (R := fun _ => DatV base g n cap (fun r L' => r = .tuple #[] ∧ Moved M L' a b)) (by exact Va) rfl rfl (fun w_ e_ => reverse_v M a b w_ (D4.ext e_) hn (by omega) (by omega)) ?_
      intro r w5 w0_ e0 m5 hR
      obtain ⟨M5, D5, rfl, hM5⟩ := hR
      have ep : (b : Int) - 1 - ((p : Int) - (a : Int)) = ((b - 1 - (p - a) : Nat) : Int) := by omega
      repeat (first | refine Vx ?_ | (apply Ops_q; (case hon => exact Va); (case hd => rfl); (case hq => exact YlA)) | refine Vr ?_ | refine Vt ?_ | refine Vf ?_ | refine Vm ?_ | refine Ve ?_ | refine Vo ?_ | refine Vz ?_ | refine Vn ?_)
      rw [ep]
      exact ⟨(b - 1 - (p - a), 1, M5), (by repeat (first | exact trivial | refine ⟨rfl, ?_⟩)), by dsimp only; omega, by dsimp only; omega, (m4.ext e0).trans m5, D5, hP.move hM5⟩
    · repeat (first | refine Vx ?_ | (apply Ops_q; (case hon => exact Va); (case hd => rfl); (case hq => exact YlA)) | refine Vr ?_ | refine Vt ?_ | refine Vf ?_ | refine Vm ?_ | refine Ve ?_ | refine Vo ?_ | refine Vz ?_ | refine Vn ?_)
      exact ⟨(p, h, M), (by repeat (first | exact trivial | refine ⟨rfl, ?_⟩)), hp1, hp2, m4, D4, hP⟩
  clear hp1 hp2 m4 D4 hP
  rintro ⟨p, h, M⟩ w3 ⟨hp1, hp2, m3, D3, hP⟩
  dsimp only at hp1 hp2 D3 hP ⊢
  repeat (first | refine Vx ?_ | (apply Ops_q; (case hon => exact Va); (case hd => rfl); (case hq => exact YlA)) | refine Vr ?_ | refine Vt ?_ | refine Vf ?_ | refine Vm ?_ | refine Ve ?_ | refine Vo ?_ | refine Vz ?_ | refine Vn ?_)
  refine Ops_meet [(68, .bool (bal && (part && decide (h = 1)))), (11, .int .i64 p), (1, .int .i64 a), (2, .int .i64 b), (3, .int .i64 lim), (8, .bool bal), (9, .bool part), (10, .int .i64 l), (0, .slice (some ⟨g, 0, none⟩) n cap)] ?_ ?_
  · cases bal
    · repeat (first | refine Vx ?_ | (apply Ops_q; (case hon => exact Va); (case hd => rfl); (case hq => exact YlA)) | refine Vr ?_ | refine Vt ?_ | refine Vf ?_ | refine Vm ?_ | refine Ve ?_ | refine Vo ?_ | refine Vz ?_ | refine Vn ?_)
      exact ⟨⟨rfl, (by repeat (first | exact trivial | refine ⟨rfl, ?_⟩))⟩, rfl⟩
    · cases part
      · repeat (first | refine Vx ?_ | (apply Ops_q; (case hon => exact Va); (case hd => rfl); (case hq => exact YlA)) | refine Vr ?_ | refine Vt ?_ | refine Vf ?_ | refine Vm ?_ | refine Ve ?_ | refine Vo ?_ | refine Vz ?_ | refine Vn ?_)
        exact ⟨⟨rfl, (by repeat (first | exact trivial | refine ⟨rfl, ?_⟩))⟩, rfl⟩
      · repeat (first | refine Vx ?_ | (apply Ops_q; (case hon => exact Va); (case hd => rfl); (case hq => exact YlA)) | refine Vr ?_ | refine Vt ?_ | refine Vf ?_ | refine Vm ?_ | refine Ve ?_ | refine Vo ?_ | refine Vz ?_ | refine Vn ?_)
        exact ⟨⟨rfl, (by repeat (first | exact trivial | refine ⟨rfl, ?_⟩))⟩, rfl⟩
  repeat (first | refine Vx ?_ | (apply Ops_q; (case hon => exact Va); (case hd => rfl); (case hq => exact YlA)) | refine Vr ?_ | refine Vt ?_ | refine Vf ?_ | refine Vm ?_ | refine Ve ?_ | refine Vo ?_ | refine Vz ?_ | refine Vn ?_)
  refine V_meet1 (fun M : List Int => [(11, .int .i64 p), (1, .int .i64 a), (2, .int .i64 b), (3, .int .i64 lim), (8, .bool bal), (9, .bool part), (10, .int .i64 l), (0, .slice (some ⟨g, 0, none⟩) n cap)])
    (fun M w' => Mod (BlkU g) w w' ∧ DatU w' base g n cap M ∧ PdS ltU L M a0 a b b0) ?_ ?_
  · refine V_cond rfl (fun ht => ?_) (fun ht => ?_)
    · repeat (first | refine Vx ?_ | (apply Ops_q; (case hon => exact Va); (case hd => rfl); (case hq => exact YlA)) | refine Vr ?_ | refine Vt ?_ | refine Vf ?_ | refine Vm ?_ | refine Ve ?_ | refine Vo ?_ | refine Vz ?_ | refine Vn ?_)
      refine Ops_callM (S := BlkU g) (R := fun _ => DatV base g n cap (fun r L' => ∃ o : Bool, r = .bool o ∧ Moved M L' a b ∧ (o = true → Asc ltU L' a b))) (by exact Va) rfl rfl (fun w_ e_ => partialU_v M a b w_ (D3.ext e_) hn (by omega) (by omega) hP.pre') ?_
      intro r w5 w0_ e0 m5 hR
      obtain ⟨M5, D5, o, rfl, hM5, hA5⟩ := hR
      repeat (first | refine Vx ?_ | (apply Ops_q; (case hon => exact Va); (case hd => rfl); (case hq => exact YlA)) | refine Vr ?_ | refine Vt ?_ | refine Vf ?_ | refine Vm ?_ | refine Ve ?_ | refine Vo ?_ | refine Vz ?_ | refine Vn ?_)
      refine V_cond rfl (fun ho => ?_) (fun ho => ?_)
      · replace hA5 := hA5 ho
        repeat (first | refine Vx ?_ | (apply Ops_q; (case hon => exact Va); (case hd => rfl); (case hq => exact YlA)) | refine Vr ?_ | refine Vt ?_ | refine Vf ?_ | refine Vm ?_ | refine Ve ?_ | refine Vo ?_ | refine Vz ?_ | refine Vn ?_)
        refine ret0 (by first | exact .inl rfl | exact .inr rfl) rfl ?_
        exact Does_mk (fun w' he => ⟨_, D5.ext he, rfl, (hP.move hM5).mv, (hP.move hM5).fin hA5⟩) ((m3.ext e0).trans m5)
      · repeat (first | refine Vx ?_ | (apply Ops_q; (case hon => exact Va); (case hd => rfl); (case hq => exact YlA)) | refine Vr ?_ | refine Vt ?_ | refine Vf ?_ | refine Vm ?_ | refine Ve ?_ | refine Vo ?_ | refine Vz ?_ | refine Vn ?_)
        exact ⟨M5, (by repeat (first | exact trivial | refine ⟨rfl, ?_⟩)), (m3.ext e0).trans m5, D5, hP.move hM5⟩
    · repeat (first | refine Vx ?_ | (apply Ops_q; (case hon => exact Va); (case hd => rfl); (case hq => exact YlA)) | refine Vr ?_ | refine Vt ?_ | refine Vf ?_ | refine Vm ?_ | refine Ve ?_ | refine Vo ?_ | refine Vz ?_ | refine Vn ?_)
      exact ⟨M, (by repeat (first | exact trivial | refine ⟨rfl, ?_⟩)), m3, D3, hP⟩
  clear m3 D3 hP
  rintro M w3 ⟨m3, D3, hP⟩
  obtain ⟨y, hy⟩ := D3.get (k := p) (by omega)
  obtain ⟨z, hz⟩ : ∃ z, 0 < a → M[a - 1]? = some z := by
    by_cases h : 0 < a
    · obtain ⟨z, hz⟩ := D3.get (k := a - 1) (by omega)
      exact ⟨z, fun _ => hz⟩
    · exact ⟨0, fun h2 => absurd h2 h⟩
  obtain ⟨t, ht⟩ : ∃ t, t = (decide (0 < a) && !decide (z < y)) := ⟨_, rfl⟩
  repeat (first | refine Vx ?_ | (apply Ops_q; (case hon => exact Va); (case hd => rfl); (case hq => exact YlA)) | refine Vr ?_ | refine Vt ?_ | refine Vf ?_ | refine Vm ?_ | refine Ve ?_ | refine Vo ?_ | refine Vz ?_ | refine Vn ?_)
  refine Ops_meet [(87, .bool t), (11, .int .i64 p), (1, .int .i64 a), (2, .int .i64 b), (3, .int .i64 lim), (8, .bool bal), (9, .bool part), (10, .int .i64 l), (0, .slice (some ⟨g, 0, none⟩) n cap)] ?_ ?_
  · have hcy := D3.at hy
    by_cases h : 0 < a
    · have hd : decide ((0 : Int) < (a : Int)) = true := decide_eq_true (by omega)
      have hcx := D3.at (hz h)
      have hs1 : (a : Int) - 1 = ((a - 1 : Nat) : Int) := by omega
      repeat (first | refine Vx ?_ | (apply Ops_q; (case hon => exact Va); (case hd => rfl); (case hq => exact YlA)) | refine Vr ?_ | refine Vt ?_ | refine Vf ?_ | refine Vm ?_ | refine Ve ?_ | refine Vo ?_ | refine Vz ?_ | refine Vn ?_)
      refine Ops_know rfl rfl hd ?_
      repeat (first | refine Vx ?_ | (apply Ops_q; (case hon => exact Va); (case hd => rfl); (case hq => exact YlA)) | refine Vr ?_ | refine Vt ?_ | refine Vf ?_ | refine Vm ?_ | refine Ve ?_ | refine Vo ?_ | refine Vz ?_ | refine Vn ?_)
      rw [hs1]
      (apply Ops_q; (case hon => (exact Va)); (case hd => rfl); (case hq => exact Yl_indexS (j := (a - 1)) rfl rfl (by omega)))
      repeat (first | refine Vx ?_ | (apply Ops_q; (case hon => exact Va); (case hd => rfl); (case hq => exact YlA)) | refine Vr ?_ | refine Vt ?_ | refine Vf ?_ | refine Vm ?_ | refine Ve ?_ | refine Vo ?_ | refine Vz ?_ | refine Vn ?_)
      (apply Ops_q; (case hon => (exact Va)); (case hd => rfl); (case hq => exact Yl_indexS (j := p) rfl rfl (by omega)))
      repeat (first | refine Vx ?_ | (apply Ops_q; (case hon => exact Va); (case hd => rfl); (case hq => exact YlA)) | refine Vr ?_ | refine Vt ?_ | refine Vf ?_ | refine Vm ?_ | refine Ve ?_ | refine Vo ?_ | refine Vz ?_ | refine Vn ?_)
      (apply Ops_q; (case hon => (exact Va)); (case hd => rfl); (case hq => exact Yl_call rfl (fun w_ e_ => lessU_v z y w_)))
      repeat (first | refine Vx ?_ | (apply Ops_q; (case hon => exact Va); (case hd => rfl); (case hq => exact YlA)) | refine Vr ?_ | refine Vt ?_ | refine Vf ?_ | refine Vm ?_ | refine Ve ?_ | refine Vo ?_ | refine Vz ?_ | refine Vn ?_)
      refine ⟨⟨?_, (by repeat (first | exact trivial | refine ⟨rfl, ?_⟩))⟩, rfl⟩
      rw [ht, decide_eq_true h]; exact rfl
    · have hd : decide ((0 : Int) < (a : Int)) = false := decide_eq_false (by omega)
      repeat (first | refine Vx ?_ | (apply Ops_q; (case hon => exact Va); (case hd => rfl); (case hq => exact YlA)) | refine Vr ?_ | refine Vt ?_ | refine Vf ?_ | refine Vm ?_ | refine Ve ?_ | refine Vo ?_ | refine Vz ?_ | refine Vn ?_)
      refine Ops_know rfl rfl hd ?_
      repeat (first | refine Vx ?_ | (apply Ops_q; (case hon => exact Va); (case hd => rfl); (case hq => exact YlA)) | refine Vr ?_ | refine Vt ?_ | refine Vf ?_ | refine Vm ?_ | refine Ve ?_ | refine Vo ?_ | refine Vz ?_ | refine Vn ?_)
      refine ⟨⟨?_, (by repeat (first | exact trivial | refine ⟨rfl, ?_⟩))⟩, rfl⟩
      rw [ht, decide_eq_false h]; exact rfl
  repeat (first | refine Vx ?_ | (apply Ops_q; (case hon => exact Va); (case hd => rfl); (case hq => exact YlA)) | refine Vr ?_ | refine Vt ?_ | refine Vf ?_ | refine Vm ?_ | refine Ve ?_ | refine Vo ?_ | refine Vz ?_ | refine Vn ?_)
  refine V_cond rfl (fun hc => ?_) (fun hc => ?_)
  · rw [hc] at ht
    have ha : 0 < a := by
      rcases Nat.eq_zero_or_pos a with h | h
      · rw [decide_eq_false (by omega)] at ht; cases ht
      · exact h
    rw [decide_eq_true ha] at ht
    have hzy : ¬z < y := fun h => by simp [h] at ht
    replace hz := hz ha
    repeat (first | refine Vx ?_ | (apply Ops_q; (case hon => exact Va); (case hd => rfl); (case hq => exact YlA)) | refine Vr ?_ | refine Vt ?_ | refine Vf ?_ | refine Vm ?_ | refine Ve ?_ | refine Vo ?_ | refine Vz ?_ | refine Vn ?_)
    refine Ops_callM (S := BlkU g) (R := fun _ => DatV base g n cap (fun r L' => ∃ i : Nat, r = .int .i64 i ∧ a < i ∧ i ≤ b ∧ Moved M L' a b ∧ (∀ k x, a ≤ k → k < i → L'[k]? = some x → ¬ltU y x < 0) ∧ ∀ k x, i ≤ k → k < b → L'[k]? = some x → ltU y x < 0)) (by exact Va) rfl rfl (fun w_ e_ => partEqU_v M a b p y w_ (D3.ext e_) hn (by omega) (by omega) ⟨hp1, hp2⟩ hy) ?_
    intro r w5 w0_ e0 m5 hR
    obtain ⟨M5, D5, i, rfl, hi1, hi2, hM5, hl1, hl2⟩ := hR
    repeat (first | refine Vx ?_ | (apply Ops_q; (case hon => exact Va); (case hd => rfl); (case hq => exact YlA)) | refine Vr ?_ | refine Vt ?_ | refine Vf ?_ | refine Vm ?_ | refine Ve ?_ | refine Vo ?_ | refine Vz ?_ | refine Vn ?_)
    have hP5 := hP.move hM5
    have hz5 : M5[a - 1]? = some z := (hM5.out _ (.inl (by omega))).trans hz
    refine ⟨(i, b, lim, bal, part, M5), (by repeat (first | exact trivial | refine ⟨rfl, ?_⟩)), ⟨hlim, (m3.ext e0).trans m5, D5, hP5.eq (by omega) hi2 (fun u v x x' h1 h2 h3 hx hx' => ?_) (fun u v x x' h1 h2 h3 h4 hx hx' => ?_)⟩, by simp only; omega⟩
    · have q1 := hl1 u x h1 (by omega) hx
      have q2 := hP5.pre' (a - 1) v z x' (Nat.zero_le _) (by omega) (by omega) (by omega) hz5 hx'
      simp only [ltU] at *; omega
    · have q1 := hl1 u x h1 h2 hx
      have q2 := hl2 v x' h3 h4 hx'
      simp only [ltU] at *; omega
  clear hz ht hy hc
  repeat (first | refine Vx ?_ | (apply Ops_q; (case hon => exact Va); (case hd => rfl); (case hq => exact YlA)) | refine Vr ?_ | refine Vt ?_ | refine Vf ?_ | refine Vm ?_ | refine Ve ?_ | refine Vo ?_ | refine Vz ?_ | refine Vn ?_)
  refine Ops_callM (S := BlkU g) (R := fun _ => DatV base g n cap (fun r L' => ∃ (j : Nat) (o : Bool), r = .tuple #[.int .i64 j, .bool o] ∧ a ≤ j ∧ j < b ∧ Moved M L' a b ∧ Below2 ltU L' a j j b ∧ Below2 ltU L' a (j + 1) (j + 1) b)) (by exact Va) rfl rfl (fun w_ e_ => partU_v M a b p w_ (D3.ext e_) hn (by omega) (by omega) ⟨hp1, hp2⟩) ?_
  intro r w5 w0_ e0 m5 hR
  obtain ⟨M5, D5, j, o, rfl, hj1, hj2, hM5, q1, q2⟩ := hR
  have hP5 := hP.move hM5
  have m05 := (m3.ext e0).trans m5
  clear hP m3 D3 hM5 m5 e0
  have el : (j : Int) - (a : Int) = ((j - a : Nat) : Int) := by omega
  have er : (b : Int) - (j : Int) = ((b - j : Nat) : Int) := by omega
  repeat (first | refine Vx ?_ | (apply Ops_q; (case hon => exact Va); (case hd => rfl); (case hq => exact YlA)) | refine Vr ?_ | refine Vt ?_ | refine Vf ?_ | refine Vm ?_ | refine Ve ?_ | refine Vo ?_ | refine Vz ?_ | refine Vn ?_)
  rw [el, er]
  repeat (first | refine Vx ?_ | (apply Ops_q; (case hon => exact Va); (case hd => rfl); (case hq => exact YlA)) | refine Vr ?_ | refine Vt ?_ | refine Vf ?_ | refine Vm ?_ | refine Ve ?_ | refine Vo ?_ | refine Vz ?_ | refine Vn ?_)
  refine V_cond rfl (fun hlr => ?_) (fun hlr => ?_)
  · repeat (first | refine Vx ?_ | (apply Ops_q; (case hon => exact Va); (case hd => rfl); (case hq => exact YlA)) | refine Vr ?_ | refine Vt ?_ | refine Vf ?_ | refine Vm ?_ | refine Ve ?_ | refine Vo ?_ | refine Vz ?_ | refine Vn ?_)
    refine Ops_callM (S := BlkU g) (R := fun _ => DatV base g n cap (fun r L' => r = .tuple #[] ∧ Moved M5 L' a j ∧ Asc ltU L' a j)) (by exact Va) rfl rfl (fun w_ e_ => ih (j - a) (by omega) M5 a j lim w_ (Nat.le_refl _) (D5.ext e_) (by omega) hj1 (fun u v x x' h1 h2 h3 h4 => hP5.pre' u v x x' h1 h2 h3 (by omega)) hlim) ?_
    intro r w6 w0_ e0 m6 hR
    obtain ⟨M6, D6, rfl, hM6, hA6⟩ := hR
    have hP6 := hP5.move (hM6.wide (Nat.le_refl _) (by omega))
    have hP7 := hP6.left hj1 hj2 hA6 (q1.moved hM6 (Nat.le_refl _)) (q2.moved (hM6.wide (Nat.le_refl _) (by omega)) (Nat.le_refl _))
    repeat (first | refine Vx ?_ | (apply Ops_q; (case hon => exact Va); (case hd => rfl); (case hq => exact YlA)) | refine Vr ?_ | refine Vt ?_ | refine Vf ?_ | refine Vm ?_ | refine Ve ?_ | refine Vo ?_ | refine Vz ?_ | refine Vn ?_)
    exact ⟨(j + 1, b, lim, decide ((l : Int) / 8 ≤ ((j - a : Nat) : Int)), o, M6), (by repeat (first | exact trivial | refine ⟨rfl, ?_⟩)), ⟨hlim, (m05.ext e0).trans m6, D6, hP7⟩, by simp only; omega⟩
  · repeat (first | refine Vx ?_ | (apply Ops_q; (case hon => exact Va); (case hd => rfl); (case hq => exact YlA)) | refine Vr ?_ | refine Vt ?_ | refine Vf ?_ | refine Vm ?_ | refine Ve ?_ | refine Vo ?_ | refine Vz ?_ | refine Vn ?_)
    refine Ops_callM (S := BlkU g) (R := fun _ => DatV base g n cap (fun r L' => r = .tuple #[] ∧ Moved M5 L' (j + 1) b ∧ Asc ltU L' (j + 1) b)) (by exact Va) rfl rfl (fun w_ e_ => ih (b - (j + 1)) (by omega) M5 (j + 1) b lim w_ (Nat.le_refl _) (D5.ext e_) (by omega) (by omega) (fun u v x x' h1 h2 h3 h4 hx hx' => by
        rcases Nat.lt_or_ge u a with c | c
        · exact hP5.pre' u v x x' h1 c (by omega) h4 hx hx'
        · exact q2 u v x x' c h2 h3 h4 hx hx') hlim) ?_
    intro r w6 w0_ e0 m6 hR
    obtain ⟨M6, D6, rfl, hM6, hA6⟩ := hR
    have hP6 := hP5.move (hM6.wide (by omega) (Nat.le_refl _))
    have hP7 := hP6.right hj1 hj2 hA6 (q1.moved' (hM6.wide (by omega) (Nat.le_refl _)) (Nat.le_refl _)) (q2.moved' hM6 (Nat.le_refl _))
    repeat (first | refine Vx ?_ | (apply Ops_q; (case hon => exact Va); (case hd => rfl); (case hq => exact YlA)) | refine Vr ?_ | refine Vt ?_ | refine Vf ?_ | refine Vm ?_ | refine Ve ?_ | refine Vo ?_ | refine Vz ?_ | refine Vn ?_)
    exact ⟨(a, j, lim, decide ((l : Int) / 8 ≤ ((b - j : Nat) : Int)), o, M6), (by repeat (first | exact trivial | refine ⟨rfl, ?_⟩)), ⟨hlim, (m05.ext e0).trans m6, D6, hP7⟩, by simp only; omega⟩
end
end Go.Proofs.Ytjpnaofoeeegeaa

/-
  Sorting words: slices.Sort and slices.Compact at uint64.
  Conditions: the list is one's own, and not too long for a machine.
-/
namespace Go.Proofs.Ytjpnaofoeeegeaa
open Go.RowKit

section
variable {P : Program} {N : Fr} {ops : Array Oper} {K : Env → World → Prop} {m : Env} {w : World} {rest : List Oper} {ty : TypeId} {pos : String} {after : Array Edge} {g : Option (Nat × Bool)}
/-- clear(s) at a slice of one's own, of elements of one cell. -/
theorem Ops_clear {t e t0 : TypeId} {x : Operand} {b o n c : Nat} {cs : List Value} {z : Value} [ht : TSlice P t e] [hz : TZero P e z [z]] (hon : On N ops m ⟨none, .call { callee := .builtin .clear, args := #[x], argTypes := #[t] }, ty, pos, after, g⟩)
    (hx : ev m x = some (.slice (some ⟨b, o, none⟩) n c)) (hB : Blk w b t0 cs) (hn : 0 < n) (ho : o + n ≤ cs.length) (h1 : z.oneCell' = true)
    (h : ∀ w1, Upd w w1 b t0 (splice cs o (List.replicate n z)) → Ops P N ops false K rest m w1) : Ops P N ops false K (⟨none, .call { callee := .builtin .clear, args := #[x], argTypes := #[t] }, ty, pos, after, g⟩ :: rest) m w := by
  refine ⟨fun a w' ha hw => ?_⟩
  unfold wpList
  rw [if_pos (hon.out a ha)]
  refine .inl ?_
  have hst := run_storeCells_at P b o t0 (List.replicate n z) 0 cs.toArray w' (hB.ext hw) (by simpa using ho) (fun v hv => by rw [List.eq_of_mem_replicate hv]; exact h1)
  simp only [Nat.add_zero] at hst
  obtain ⟨inf, h2, h3⟩ := Option.bind_eq_some_iff.1 hz.h
  have hzr : (zeroValue e).run P w' = .ok z w' := by simp [zeroValue, typeInfo, h2, h3]
  have hzc : (Builtin.zeroCells z.cells n).toList = List.replicate n z := by
    rw [hz.cells]
    simp [Builtin.zeroCells]
    apply List.ext_getElem
    · simp
    · intro i h1 h2
      simp [Nat.mod_one]
  have hr : (execOp a.eval ⟨none, .call { callee := .builtin .clear, args := #[x], argTypes := #[t] }, ty, pos, after, g⟩).run P w' = .ok (.value (.tuple #[])) (w'.setRow b (splice cs o (List.replicate n z)).toArray) := by
    obtain ⟨q, rfl⟩ : ∃ q, n = q + 1 := ⟨n - 1, by omega⟩
    simp [execOp, resolve, invoke, builtin, ha.ev hx, Builtin.clear_, run_underlying ht.h, hzr, hzc, hst, splice]
  unfold Oper.wp
  rw [hr]
  exact (h _ (Upd.of hB)).out _ _ (ha.put_none _) (ext_setRow hw _)
end
section
variable {base g n cap : Nat}
theorem sortU_v (hn : n ≤ 1000000000000) (L : List Int) (w : World) (hD : DatU w base g n cap L) :
    Calls Try.prog 76 #[.slice (some ⟨g, 0, none⟩) n cap] w (Does (BlkU g) (DatV base g n cap (fun r L' => r = .tuple #[] ∧ Moved L L' 0 n ∧ Asc ltU L' 0 n)) w) := by
  have hl := Lib.bitLen_le n 40 (by omega) (by omega)
  refine V_enter (vs := [_]) Try.func76 rfl Try.ntmps76 (Nat.le_of_ble_eq_true rfl) ?_
  repeat (first | refine Vx ?_ | (apply Ops_q; (case hon => exact Va); (case hd => rfl); (case hq => exact YlA)) | refine Vr ?_ | refine Vt ?_ | refine Vf ?_ | refine Vm ?_ | refine Ve ?_ | refine Vo ?_ | refine Vz ?_ | refine Vn ?_)
  (apply Ops_q; (case hon => (exact Va)); (case hd => rfl); (case hq => exact Yl_call rfl (fun w_ e_ => lenI_v n w_ (by omega))))
  repeat (first | refine Vx ?_ | (apply Ops_q; (case hon => exact Va); (case hd => rfl); (case hq => exact YlA)) | refine Vr ?_ | refine Vt ?_ | refine Vf ?_ | refine Vm ?_ | refine Ve ?_ | refine Vo ?_ | refine Vz ?_ | refine Vn ?_)
  refine Ops_callM (S := BlkU g) (R := fun _ => DatV base g n cap (fun r L' => r = .tuple #[] ∧ Moved L L' 0 n ∧ Asc ltU L' 0 n)) (by exact Va) rfl rfl (fun w_ e_ => pdqU_v hn n L 0 n (Lib.bitLen n) w_ (Nat.le_refl _) (hD.ext e_) (Nat.le_refl _) (Nat.zero_le _) (fun i j x y h1 h2 => absurd h2 (Nat.not_lt_zero _)) (by omega)) ?_
  intro r w5 w0_ e0 m5 hR
  obtain ⟨M5, D5, rfl, hM5, hA5⟩ := hR
  repeat (first | refine Vx ?_ | (apply Ops_q; (case hon => exact Va); (case hd => rfl); (case hq => exact YlA)) | refine Vr ?_ | refine Vt ?_ | refine Vf ?_ | refine Vm ?_ | refine Ve ?_ | refine Vo ?_ | refine Vz ?_ | refine Vn ?_)
  refine ret0 (by first | exact .inl rfl | exact .inr rfl) rfl ?_
  exact Does_mk (fun w' he => ⟨M5, D5.ext he, rfl, hM5, hA5⟩) ((Mod.of_ext e0).trans m5)
end
/-! ### Compact, in plain lists -/
structure SD (D L : List Int) (p : Nat) : Prop where
  lt : D.Pairwise (· < ·)
  mem : ∀ x, x ∈ D ↔ x ∈ L.take p
theorem SD.step {D L : List Int} {p n : Nat} (h : SD D L p) (hA : Asc ltU L 0 n) (hp : p < n) (hn : n = L.length) (h1 : 1 ≤ p) {x y : Int} (hx : L[p]? = some x) (hy : L[p - 1]? = some y) :
    (x ≠ y → SD (D ++ [x]) L (p + 1)) ∧ (x = y → SD D L (p + 1)) := by
  have hle : ∀ d ∈ D, d ≤ y := fun d hd => by
    obtain ⟨k, hk, rfl⟩ := List.mem_take_iff_getElem.1 ((h.mem d).1 hd)
    rcases Nat.lt_or_ge k (p - 1) with c | c
    · have := hA k (p - 1) _ y (Nat.zero_le _) c (by omega) (List.getElem?_eq_getElem (by omega : k < L.length)) hy
      simp only [ltU] at this; omega
    · obtain rfl : k = p - 1 := by omega
      rw [List.getElem?_eq_getElem (by omega)] at hy
      exact Int.le_of_eq (Option.some.inj hy)
  have hyx : ¬ltU x y < 0 := hA (p - 1) p y x (Nat.zero_le _) (by omega) hp hy hx
  simp only [ltU] at hyx
  have hm : ∀ z, z ∈ L.take (p + 1) ↔ z ∈ L.take p ∨ z = x := fun z => by
    rw [List.take_add_one, hx, List.mem_append]; simp
  refine ⟨fun hne => ⟨?_, fun z => ?_⟩, fun he => ⟨h.lt, fun z => ?_⟩⟩
  · rw [List.pairwise_append]
    refine ⟨h.lt, List.pairwise_singleton .., fun d hd z hz => ?_⟩
    rw [List.mem_singleton.1 hz]
    have := hle d hd; omega
  · rw [List.mem_append, hm, h.mem]; simp
  · rw [hm, ← h.mem]
    refine ⟨.inl, fun hz => hz.elim id fun e => ?_⟩
    rw [h.mem, e, he]
    exact List.mem_take_iff_getElem.2 ⟨p - 1, by omega, by rw [List.getElem?_eq_getElem (by omega)] at hy; exact Option.some.inj hy⟩
section
variable {P : Program} {N : Fr} {ops : Array Oper} {K : Env → World → Prop} {m : Env} {w : World} {rest : List Oper} {ty : TypeId} {pos : String} {after : Array Edge} {g : Option (Nat × Bool)} {dr : Bool}
/-- s[i:], the address exactly -/
theorem Ops_sliceLx {dst : Nat} {t e : TypeId} {x y : Operand} {k : IntKind} {i c n0 b0 n : Nat} {ad : Addr} [ht : TSlice P t e] [hs : TSize P e n0 b0]
    (hon : On N ops m ⟨some dst, .slice t x (some y) none none, ty, pos, after, g⟩) (hd : Nat.ble (dst + 1) N.n = true) (hx : ev m x = some (.slice (some ad) n c)) (hy : ev m y = some (.int k (i : Int)))
    (hi : i < n) (hc : n ≤ c) (h : Ops P N ops false K rest ((dst, .slice (some (ad.add (i * n0))) (n - i) (c - i)) :: m) w) :
    Ops P N ops false K (⟨some dst, .slice t x (some y) none none, ty, pos, after, g⟩ :: rest) m w := by
  obtain ⟨inf, h1, h2⟩ := Option.map_eq_some_iff.1 hs.h
  simp only [Prod.mk.injEq] at h2
  refine Ops_q hon hd (Yl_of_run fun ac w' ha _ => ?_) h
  have he : P.elem t = e := by simp [Program.elem, ht.h]
  have hu : P.underlying t = some (.slice (P.elem t)) := by rw [he]; exact ht.h
  have := run_slice_l (P := P) w' t (some ad) n c hu k i (by omega) (by omega)
  have hci : ¬c = i := by omega
  simp only [execOp, Option.map_none, Option.map_some, ha.ev hx, ha.ev hy]
  simp only [Sem.run_bind, run_sliceAt_slice w' t _ _ _ _ hu, this, sizeOf, typeInfo, he]
  simp [sliced, h1, h2.1, Result.andThen, hci]
/-- s[:i], whatever lies there -/
theorem Ops_sliceHx {dst : Nat} {t e : TypeId} {x y : Operand} {k : IntKind} {i c n0 b0 n : Nat} {ao : Option Addr} [ht : TSlice P t e] [hs : TSize P e n0 b0]
    (hon : On N ops m ⟨some dst, .slice t x none (some y) none, ty, pos, after, g⟩) (hd : Nat.ble (dst + 1) N.n = true) (hx : ev m x = some (.slice ao n c)) (hy : ev m y = some (.int k (i : Int)))
    (hi : i ≤ n) (hc : n ≤ c) (h : Ops P N ops false K rest ((dst, .slice ao i c) :: m) w) :
    Ops P N ops false K (⟨some dst, .slice t x none (some y) none, ty, pos, after, g⟩ :: rest) m w := by
  refine Ops_q hon hd (v := .slice ao i c) (Yl_of_run fun ac w' ha _ => ?_) h
  obtain ⟨inf, h1, h2⟩ := Option.map_eq_some_iff.1 hs.h
  have he : P.elem t = e := by simp [Program.elem, ht.h]
  have hu : P.underlying t = some (.slice (P.elem t)) := by rw [he]; exact ht.h
  have h0 : ao.map (fun a => a.add 0) = ao := by cases ao <;> simp [Addr.add]
  have := run_slice_h (P := P) w' t ao n c hu k i (by omega) (by omega)
  simp only [execOp, Option.map_none, Option.map_some, ha.ev hx, ha.ev hy]
  simp only [Sem.run_bind, run_sliceAt_slice w' t _ _ _ _ hu, this, sizeOf, typeInfo, he]
  simp [sliced, h1, h0, Result.andThen]
end
theorem cell_of_blk {w : World} {b k : Nat} {t : TypeId} {cs : List Value} (h : Blk w b t cs) : w.cell? ⟨b, k, none⟩ = cs[k]? := by
  unfold Blk at h
  simp [World.cell?, h]
/-- Words that can be read in a row, from the start of a block on. -/
def ReadU (w : World) (g : Nat) (D : List Int) : Prop := ∀ k x, D[k]? = some x → w.cell? ((⟨g, 0, none⟩ : Addr).add (k * 1)) = some (.int .u64 x)
theorem ReadU.ext {w w1 : World} {g : Nat} {D : List Int} (h : ReadU w g D) (he : Ext w w1) : ReadU w1 g D := fun k x hx => he.cell (h k x hx)
/-- What Compact leaves: the words without those that are like the one before. -/
def CmpR (g n cap : Nat) (L : List Int) (r : Value) (w' : World) : Prop := ∃ D : List Int, r = .slice (some ⟨g, 0, none⟩) D.length cap ∧ D.length ≤ n ∧ ReadU w' g D ∧ SD D L n
section
variable {base g n cap : Nat}
theorem DatU.read {w : World} {L : List Int} (h : DatU w base g n cap L) : ReadU w g L := fun _ _ hx => h.at hx
theorem DatU.le_cap {w : World} {L : List Int} (h : DatU w base g n cap L) : n ≤ cap := by
  obtain ⟨ao, c, hv, _, hc, _⟩ := h.own.slice2
  cases hv
  rw [List.length_map, h.len] at hc; exact hc
set_option maxHeartbeats 2000000 in
theorem compactU_v (hn : n ≤ 1000000000000) (L : List Int) (w : World) (hD : DatU w base g n cap L) (hA : Asc ltU L 0 n) :
    Calls Try.prog 77 #[.slice (some ⟨g, 0, none⟩) n cap] w (Does (BlkU g) (CmpR g n cap L) w) := by
  have hLl := hD.len
  have hcap := hD.le_cap
  refine V_enter (vs := [_]) Try.func77 rfl Try.ntmps77 (Nat.le_of_ble_eq_true rfl) ?_
  repeat (first | refine Vx ?_ | (apply Ops_q; (case hon => exact Va); (case hd => rfl); (case hq => exact YlA)) | refine Vr ?_ | refine Vt ?_ | refine Vf ?_ | refine Vm ?_ | refine Ve ?_ | refine Vo ?_ | refine Vz ?_ | refine Vn ?_)
  refine V_cond rfl (fun h2 => ?_) (fun h2 => ?_)
  · replace h2 := of_decide_eq_true h2
    repeat (first | refine Vx ?_ | (apply Ops_q; (case hon => exact Va); (case hd => rfl); (case hq => exact YlA)) | refine Vr ?_ | refine Vt ?_ | refine Vf ?_ | refine Vm ?_ | refine Ve ?_ | refine Vo ?_ | refine Vz ?_ | refine Vn ?_)
    refine ret1 (by first | exact .inl rfl | exact .inr rfl) rfl rfl ?_
    refine Does_mk (fun w' he => ⟨L, by rw [hLl], Nat.le_of_eq hLl, hD.read.ext he, ⟨?_, fun x => by rw [List.take_of_length_le (by omega)]⟩⟩) (.of_ext (Ext.refl _))
    match L, hLl with
    | [], _ => exact .nil
    | [x], _ => exact List.pairwise_singleton ..
    | x :: y :: l, h => simp at h; omega
  replace h2 := of_decide_eq_false h2
  repeat (first | refine Vx ?_ | (apply Ops_q; (case hon => exact Va); (case hd => rfl); (case hq => exact YlA)) | refine Vr ?_ | refine Vt ?_ | refine Vf ?_ | refine Vm ?_ | refine Ve ?_ | refine Vo ?_ | refine Vz ?_ | refine Vn ?_)
  refine V_loop (fun s : Nat => [(3, .int .i64 s), (0, .slice (some ⟨g, 0, none⟩) n cap)]) (fun s w' => Ext w w' ∧ 1 ≤ s ∧ s ≤ n ∧ SD (L.take s) L s) (fun s => n - s) 1 (by repeat (first | exact trivial | refine ⟨rfl, ?_⟩))
    ⟨Ext.refl _, Nat.le_refl _, by omega, ⟨?_, fun x => Iff.rfl⟩⟩ ?_
  · match L with
    | [] => simp
    | x :: l => simp
  rintro i w3 ⟨x3, h1, h3, hS⟩
  have D3 := hD.ext x3
  repeat (first | refine Vx ?_ | (apply Ops_q; (case hon => exact Va); (case hd => rfl); (case hq => exact YlA)) | refine Vr ?_ | refine Vt ?_ | refine Vf ?_ | refine Vm ?_ | refine Ve ?_ | refine Vo ?_ | refine Vz ?_ | refine Vn ?_)
  refine V_cond rfl (fun hi => ?_) (fun hi => ?_)
  · replace hi := of_decide_eq_true hi
    obtain ⟨p, rfl⟩ : ∃ p, i = p + 1 := ⟨i - 1, by omega⟩
    have hs1 : ((p + 1 : Nat) : Int) - 1 = (p : Int) := by omega
    obtain ⟨x, hx⟩ := D3.get (k := p + 1) (by omega)
    obtain ⟨y, hy⟩ := D3.get (k := p) (by omega)
    have hcx := D3.at hx
    have hcy := D3.at hy
    obtain ⟨q1, q2⟩ := hS.step hA (by omega) hLl.symm h1 hx hy
    repeat (first | refine Vx ?_ | (apply Ops_q; (case hon => exact Va); (case hd => rfl); (case hq => exact YlA)) | refine Vr ?_ | refine Vt ?_ | refine Vf ?_ | refine Vm ?_ | refine Ve ?_ | refine Vo ?_ | refine Vz ?_ | refine Vn ?_)
    (apply Ops_q; (case hon => (exact Va)); (case hd => rfl); (case hq => exact Yl_indexS (j := (p+1)) rfl rfl (by omega)))
    repeat (first | refine Vx ?_ | (apply Ops_q; (case hon => exact Va); (case hd => rfl); (case hq => exact YlA)) | refine Vr ?_ | refine Vt ?_ | refine Vf ?_ | refine Vm ?_ | refine Ve ?_ | refine Vo ?_ | refine Vz ?_ | refine Vn ?_)
    rw [hs1]
    (apply Ops_q; (case hon => (exact Va)); (case hd => rfl); (case hq => exact Yl_indexS (j := p) rfl rfl (by omega)))
    repeat (first | refine Vx ?_ | (apply Ops_q; (case hon => exact Va); (case hd => rfl); (case hq => exact YlA)) | refine Vr ?_ | refine Vt ?_ | refine Vf ?_ | refine Vm ?_ | refine Ve ?_ | refine Vo ?_ | refine Vz ?_ | refine Vn ?_)
    refine V_cond rfl (fun hxy => ?_) (fun hxy => ?_)
    · replace hxy := of_decide_eq_true hxy
      replace q2 := q2 hxy
      repeat (first | refine Vx ?_ | (apply Ops_q; (case hon => exact Va); (case hd => rfl); (case hq => exact YlA)) | refine Vr ?_ | refine Vt ?_ | refine Vf ?_ | refine Vm ?_ | refine Ve ?_ | refine Vo ?_ | refine Vz ?_ | refine Vn ?_)
      (refine Ops_sliceLx (by exact Va) rfl rfl rfl (by omega) hcap ?_; rw [add_blk, Nat.zero_add, Nat.mul_one])
      repeat (first | refine Vx ?_ | (apply Ops_q; (case hon => exact Va); (case hd => rfl); (case hq => exact YlA)) | refine Vr ?_ | refine Vt ?_ | refine Vf ?_ | refine Vm ?_ | refine Ve ?_ | refine Vo ?_ | refine Vz ?_ | refine Vn ?_)
      generalize hi0 : p + 1 = i0 at *
      clear hx hy hcx hcy hs1 q1 hS
      refine V_loop (fun s : Nat × Nat × List Int => [(5, .int .i64 s.1), (3, .int .i64 s.2.1), (4, .slice (some ⟨g, i0, none⟩) (n - i0) (cap - i0)), (0, .slice (some ⟨g, 0, none⟩) n cap)])
        (fun s w' => 1 ≤ s.1 ∧ s.1 ≤ n - i0 ∧ i0 ≤ s.2.1 ∧ s.2.1 < i0 + s.1 ∧ Mod (BlkU g) w w' ∧ DatU w' base g n cap s.2.2 ∧ SD (s.2.2.take s.2.1) L (i0 + s.1) ∧ ∀ j, i0 + s.1 ≤ j + 1 → s.2.2[j]? = L[j]?) (fun s => n - i0 - s.1) (1, i0, L) (by repeat (first | exact trivial | refine ⟨rfl, ?_⟩))
        ⟨Nat.le_refl _, by dsimp only; omega, Nat.le_refl _, by dsimp only; omega, .of_ext x3, D3, q2, fun _ _ => rfl⟩ ?_
      clear q2 D3 h1 h3 hi x3
      rintro ⟨k, i, M⟩ w3 ⟨h1, h3, h4, h5, m3, D3, hS, hsame⟩
      dsimp only at h1 h3 h4 h5 D3 hS hsame ⊢
      have hMl := D3.len
      repeat (first | refine Vx ?_ | (apply Ops_q; (case hon => exact Va); (case hd => rfl); (case hq => exact YlA)) | refine Vr ?_ | refine Vt ?_ | refine Vf ?_ | refine Vm ?_ | refine Ve ?_ | refine Vo ?_ | refine Vz ?_ | refine Vn ?_)
      refine V_cond rfl (fun hk => ?_) (fun hk => ?_)
      · replace hk := of_decide_eq_true hk
        obtain ⟨q, rfl⟩ : ∃ q, k = q + 1 := ⟨k - 1, by omega⟩
        have hs1 : ((q + 1 : Nat) : Int) - 1 = (q : Int) := by omega
        obtain ⟨x, hx⟩ := D3.get (k := i0 + (q + 1)) (by omega)
        obtain ⟨y, hy⟩ := D3.get (k := i0 + q) (by omega)
        have hcx := D3.at hx
        have hcy := D3.at hy
        rw [add_blk, Nat.zero_add, Nat.mul_one, ← Nat.mul_one (q + 1), ← add_blk] at hcx
        rw [add_blk, Nat.zero_add, Nat.mul_one, ← Nat.mul_one q, ← add_blk] at hcy
        obtain ⟨q1, q2⟩ := hS.step hA (by omega) hLl.symm (by omega) (by rw [← hsame _ (by omega)]; exact hx) (by rw [← hsame _ (by omega)]; exact hy)
        repeat (first | refine Vx ?_ | (apply Ops_q; (case hon => exact Va); (case hd => rfl); (case hq => exact YlA)) | refine Vr ?_ | refine Vt ?_ | refine Vf ?_ | refine Vm ?_ | refine Ve ?_ | refine Vo ?_ | refine Vz ?_ | refine Vn ?_)
        (apply Ops_q; (case hon => (exact Va)); (case hd => rfl); (case hq => exact Yl_indexS (j := (q+1)) rfl rfl (by omega)))
        repeat (first | refine Vx ?_ | (apply Ops_q; (case hon => exact Va); (case hd => rfl); (case hq => exact YlA)) | refine Vr ?_ | refine Vt ?_ | refine Vf ?_ | refine Vm ?_ | refine Ve ?_ | refine Vo ?_ | refine Vz ?_ | refine Vn ?_)
        rw [hs1]
        (apply Ops_q; (case hon => (exact Va)); (case hd => rfl); (case hq => exact Yl_indexS (j := q) rfl rfl (by omega)))
        repeat (first | refine Vx ?_ | (apply Ops_q; (case hon => exact Va); (case hd => rfl); (case hq => exact YlA)) | refine Vr ?_ | refine Vt ?_ | refine Vf ?_ | refine Vm ?_ | refine Ve ?_ | refine Vo ?_ | refine Vz ?_ | refine Vn ?_)
        refine V_cond rfl (fun hne => ?_) (fun hne => ?_)
        · repeat (first | refine Vx ?_ | (apply Ops_q; (case hon => exact Va); (case hd => rfl); (case hq => exact YlA)) | refine Vr ?_ | refine Vt ?_ | refine Vf ?_ | refine Vm ?_ | refine Ve ?_ | refine Vo ?_ | refine Vz ?_ | refine Vn ?_)
          (apply Ops_q; (case hon => (exact Va)); (case hd => rfl); (case hq => exact Yl_indexS (j := (q+1)) rfl rfl (by omega)))
          repeat (first | refine Vx ?_ | (apply Ops_q; (case hon => exact Va); (case hd => rfl); (case hq => exact YlA)) | refine Vr ?_ | refine Vt ?_ | refine Vf ?_ | refine Vm ?_ | refine Ve ?_ | refine Vo ?_ | refine Vz ?_ | refine Vn ?_)
          (apply Ops_q; (case hon => (exact Va)); (case hd => rfl); (case hq => exact Yl_indexS (j := i) rfl rfl (by omega)))
          repeat (first | refine Vx ?_ | (apply Ops_q; (case hon => exact Va); (case hd => rfl); (case hq => exact YlA)) | refine Vr ?_ | refine Vt ?_ | refine Vf ?_ | refine Vm ?_ | refine Ve ?_ | refine Vo ?_ | refine Vz ?_ | refine Vn ?_)
          refine Ops_storeDatU (i := i) (v := x) (by exact Va) rfl rfl rfl D3 (by omega) ?_
          intro w5 D5 g5
          have m5 : Mod (BlkU g) w w5 := m3.grow g5 (fun b hb => .inl (by cases hb; rfl))
          have hxy : x ≠ y := fun h => by simp [h] at hne
          have ht : (M.set i x).take (i + 1) = M.take i ++ [x] := by
            rw [List.take_add_one, List.take_set_of_le (Nat.le_refl _), List.getElem?_set_self (by omega)]; rfl
          repeat (first | refine Vx ?_ | (apply Ops_q; (case hon => exact Va); (case hd => rfl); (case hq => exact YlA)) | refine Vr ?_ | refine Vt ?_ | refine Vf ?_ | refine Vm ?_ | refine Ve ?_ | refine Vo ?_ | refine Vz ?_ | refine Vn ?_)
          refine ⟨(q + 1 + 1, i + 1, M.set i x), (by repeat (first | exact trivial | refine ⟨rfl, ?_⟩)), ⟨by dsimp only; omega, by dsimp only; omega, by dsimp only; omega, by dsimp only; omega, m5, D5, ?_, fun j hj => ?_⟩, by simp only; omega⟩
          · dsimp only; rw [ht]; exact q1 hxy
          · dsimp only at hj ⊢; rw [List.getElem?_set_ne (by omega)]; exact hsame j (by omega)
        · have hxy : x = y := by
            by_cases h : x = y
            · exact h
            · simp [h] at hne
          repeat (first | refine Vx ?_ | (apply Ops_q; (case hon => exact Va); (case hd => rfl); (case hq => exact YlA)) | refine Vr ?_ | refine Vt ?_ | refine Vf ?_ | refine Vm ?_ | refine Ve ?_ | refine Vo ?_ | refine Vz ?_ | refine Vn ?_)
          exact ⟨(q + 1 + 1, i, M), (by repeat (first | exact trivial | refine ⟨rfl, ?_⟩)), ⟨by dsimp only; omega, by dsimp only; omega, h4, by dsimp only; omega, m3, D3, q2 hxy, fun j hj => hsame j (by dsimp only at hj; omega)⟩, by simp only; omega⟩
      · replace hk := of_decide_eq_false hk
        obtain rfl : k = n - i0 := by omega
        have hin : i < n := by omega
        rw [show i0 + (n - i0) = n by omega] at hS
        repeat (first | refine Vx ?_ | (apply Ops_q; (case hon => exact Va); (case hd => rfl); (case hq => exact YlA)) | refine Vr ?_ | refine Vt ?_ | refine Vf ?_ | refine Vm ?_ | refine Ve ?_ | refine Vo ?_ | refine Vz ?_ | refine Vn ?_)
        (refine Ops_sliceLx (by exact Va) rfl rfl rfl hin hcap ?_; rw [add_blk, Nat.zero_add, Nat.mul_one])
        repeat (first | refine Vx ?_ | (apply Ops_q; (case hon => exact Va); (case hd => rfl); (case hq => exact YlA)) | refine Vr ?_ | refine Vt ?_ | refine Vf ?_ | refine Vm ?_ | refine Ve ?_ | refine Vo ?_ | refine Vz ?_ | refine Vn ?_)
        obtain ⟨hlen, ⟨e1, _⟩ | ⟨g', cap', cur, e1, e3, e4, e5, e6, e7, e8⟩⟩ := D3.own.row
        · cases e1
        cases e1
        have hB : Blk w3 g 53 cur.toList := by unfold Blk; simpa using e4
        have hcl : cur.toList.length = cap := by rw [Array.length_toList, e7, Nat.mul_one]
        refine Ops_clear (by exact Va) rfl hB (by omega) (by omega) rfl ?_
        intro w4 u4
        have m4 := m3.upd u4 (.inl rfl)
        repeat (first | refine Vx ?_ | (apply Ops_q; (case hon => exact Va); (case hd => rfl); (case hq => exact YlA)) | refine Vr ?_ | refine Vt ?_ | refine Vf ?_ | refine Vm ?_ | refine Ve ?_ | refine Vo ?_ | refine Vz ?_ | refine Vn ?_)
        refine Ops_sliceHx (by exact Va) rfl rfl rfl (Nat.le_of_lt hin) hcap ?_
        repeat (first | refine Vx ?_ | (apply Ops_q; (case hon => exact Va); (case hd => rfl); (case hq => exact YlA)) | refine Vr ?_ | refine Vt ?_ | refine Vf ?_ | refine Vm ?_ | refine Ve ?_ | refine Vo ?_ | refine Vz ?_ | refine Vn ?_)
        refine ret1 (by first | exact .inl rfl | exact .inr rfl) rfl rfl ?_
        refine Does_mk (fun w' he => ⟨M.take i, by rw [List.length_take, Nat.min_eq_left (by omega)], by rw [List.length_take]; omega, ReadU.ext (fun k x hx => ?_) he, hS⟩) m4
        rw [List.getElem?_take] at hx
        split at hx
        · rename_i hki
          have hk := D3.at hx
          rw [add_blk, cell_of_blk hB] at hk
          rw [add_blk, cell_of_blk u4.blk]
          unfold splice
          rw [List.append_assoc, List.getElem?_append_left (by rw [List.length_take]; omega), List.getElem?_take, if_pos (by omega)]
          exact hk
        · cases hx
    · replace hxy := of_decide_eq_false hxy
      replace q1 := q1 hxy
      repeat (first | refine Vx ?_ | (apply Ops_q; (case hon => exact Va); (case hd => rfl); (case hq => exact YlA)) | refine Vr ?_ | refine Vt ?_ | refine Vf ?_ | refine Vm ?_ | refine Ve ?_ | refine Vo ?_ | refine Vz ?_ | refine Vn ?_)
      refine ⟨p + 1 + 1, (by repeat (first | exact trivial | refine ⟨rfl, ?_⟩)), ⟨by assumption, by omega, by omega, ?_⟩, by omega⟩
      rw [List.take_add_one, hx]; exact q1
  · replace hi := of_decide_eq_false hi
    obtain rfl : i = n := by omega
    repeat (first | refine Vx ?_ | (apply Ops_q; (case hon => exact Va); (case hd => rfl); (case hq => exact YlA)) | refine Vr ?_ | refine Vt ?_ | refine Vf ?_ | refine Vm ?_ | refine Ve ?_ | refine Vo ?_ | refine Vz ?_ | refine Vn ?_)
    refine ret1 (by first | exact .inl rfl | exact .inr rfl) rfl rfl ?_
    rw [List.take_of_length_le (by omega)] at hS
    exact Does_mk (fun w' he => ⟨L, by rw [hLl], Nat.le_of_eq hLl, D3.read.ext he, hS⟩) (.of_ext x3)
end
end Go.Proofs.Ytjpnaofoeeegeaa

/-
  Tables (layer 7): bounds.
  Conditions: the lists are not too long for a machine.
-/
namespace Go.Proofs.Ytjpnaofoeeegeaa
open Go.RowKit

structure Tab where
  ao : Option Addr
  c : Nat
  L : List En
def Tab.val (t : Tab) : Value := .slice t.ao t.L.length t.c
/-- Tables in memory, and the slice of them. -/
structure Tabs (w : World) (ad : Addr) (T : List Tab) : Prop where
  arr : Arr w 1 (some ad) (T.map fun t => [t.val])
  ens : ∀ t ∈ T, Ens w t.ao t.L
theorem Tabs.ext {w w1 : World} {ad : Addr} {T : List Tab} (h : Tabs w ad T) (he : Ext w w1) : Tabs w1 ad T := ⟨h.arr.ext he, fun t ht => (h.ens t ht).ext he⟩
def words (L : List En) : List Int := L.flatMap fun x => [(x.p.a : Int), (x.p.last : Int) + 1]
theorem words_snoc {L : List En} {k : Nat} {x : En} (hx : L[k]? = some x) : words (L.take (k + 1)) = words (L.take k) ++ [(x.p.a : Int), (x.p.last : Int) + 1] := by
  unfold words; rw [List.take_add_one, hx, List.flatMap_append]; rfl
theorem words_len (L : List En) : (words L).length = 2 * L.length := by
  unfold words
  induction L with
  | nil => rfl
  | cons x l ih => rw [List.flatMap_cons, List.length_append, ih]; simp; omega
def wordsT (T : List Tab) : List Int := T.flatMap fun t => words t.L
theorem wordsT_snoc {T : List Tab} {k : Nat} {t : Tab} (hx : T[k]? = some t) : wordsT (T.take (k + 1)) = wordsT (T.take k) ++ words t.L := by
  unfold wordsT; rw [List.take_add_one, hx, List.flatMap_append]; simp
theorem wordsT_le : ∀ {T : List Tab}, (∀ t ∈ T, t.L.length ≤ 1000000) → T.length ≤ 2 → (wordsT T).length ≤ 4000000
  | [], _, _ => by simp [wordsT]
  | [t], h, _ => by
    have h1 := words_len t.L
    have h2 := h t (by simp)
    simp [wordsT]; omega
  | [t, u], h, _ => by
    have h1 := words_len t.L
    have h2 := h t (by simp)
    have h3 := words_len u.L
    have h4 := h u (by simp)
    simp [wordsT]; omega
  | _ :: _ :: _ :: _, _, h => by simp at h
theorem own_lit1 {w w1 : World} {b : Nat} {e : TypeId} {v : Value} (h : New w w1 b e [v]) : Own w1 w.heap.size e 1 (.slice (some ⟨b, 0, none⟩) 1 1) [[v]] :=
  ⟨⟨rfl, .inr ⟨b, 1, #[v], rfl, h.ge, h.blk, Nat.le_refl _, by unfold maxLen; omega, rfl, rfl⟩⟩, by simp⟩
theorem last_lt' (p : Pf) (ha : p.a < 4294967296) : p.last < 4294967296 := by
  unfold Pf.last
  split
  · rename_i hv
    obtain ⟨v1, v2, v3⟩ := Pf.valid_iff.1 hv
    exact last_lt v3 (by omega) ha
  · omega
theorem words_le {T : List Tab} (hTn : ∀ t ∈ T, t.L.length ≤ 1000000 ∧ ∀ e ∈ t.L, e.p.a < 4294967296) {x : Int} (hx : x ∈ wordsT T) : x ≤ 4294967296 := by
  obtain ⟨t, ht, h⟩ := List.mem_flatMap.1 hx
  obtain ⟨e, he, h⟩ := List.mem_flatMap.1 h
  have ha := (hTn t ht).2 e he
  have hl := last_lt' e.p ha
  simp at h
  omega
theorem le_last {D : List Int} (h : D.Pairwise (· < ·)) {z x : Int} (hz : D[D.length - 1]? = some z) (hx : x ∈ D) : x = z ∨ x < z := by
  obtain ⟨i, hi, rfl⟩ := List.mem_iff_getElem.1 hx
  obtain ⟨hl, rfl⟩ := List.getElem?_eq_some_iff.1 hz
  rcases Nat.lt_or_ge i (D.length - 1) with c | c
  · exact .inr (List.pairwise_iff_getElem.1 h i _ hi hl c)
  · left; congr 1; omega
theorem mem_init {D : List Int} (h : D.Pairwise (· < ·)) {z : Int} (hz : D[D.length - 1]? = some z) {x : Int} : x ∈ D.take (D.length - 1) ↔ x ∈ D ∧ x ≠ z := by
  obtain ⟨hl, rfl⟩ := List.getElem?_eq_some_iff.1 hz
  constructor
  · intro hx
    obtain ⟨i, hi, rfl⟩ := List.mem_take_iff_getElem.1 hx
    refine ⟨List.getElem_mem _, fun e => ?_⟩
    have := List.pairwise_iff_getElem.1 h i (D.length - 1) (by omega) hl (by omega)
    omega
  · rintro ⟨hx, hne⟩
    obtain ⟨i, hi, rfl⟩ := List.mem_iff_getElem.1 hx
    refine List.mem_take_iff_getElem.2 ⟨i, ?_, rfl⟩
    rcases Nat.lt_or_ge i (D.length - 1) with c | c
    · omega
    · exact absurd (by congr 1; omega) hne
/-- What bounds returns. -/
def BndR (w : World) (T : List Tab) (r : Value) (w' : World) : Prop := ∃ (g cap : Nat) (D : List Int), r = .slice (some ⟨g, 0, none⟩) D.length cap ∧ w.heap.size ≤ g ∧ ReadU w' g D ∧ D.Pairwise (· < ·) ∧ ∀ x, x ∈ D ↔ (x = 0 ∨ x ∈ wordsT T) ∧ x ≠ 4294967296
end Go.Proofs.Ytjpnaofoeeegeaa

/-
  Tables (layer 7): look; the reference's bound.
  Conditions: the lists are not too long for a machine.
-/
namespace Go.Proofs.Ytjpnaofoeeegeaa
open Go.RowKit

def lookO (E : Nat → Nat → Option Int) (a : Nat) : Int := match lookE E a with
  | some e => e.v
  | none => -1
/-- What bound leaves: the list with the word among the others. -/
def BoundR (base : Nat) (D : List Int) (x : Int) (v : Value) (w0 : World) (r : Value) (w' : World) : Prop :=
  ∃ D' : List Int, Own w' base 53 1 r (D'.map uc) ∧ D'.Pairwise (· < ·) ∧ (∀ y, y ∈ D' ↔ y ∈ D ∨ y = x) ∧ D'.length ≤ D.length + 1 ∧ ∀ c, r.ownBlock = some c → v.ownBlock = some c ∨ w0.heap.size ≤ c
theorem strict_of {L D : List Int} {x : Int} (hp : L.Perm (D ++ [x])) (hA : Asc ltU L 0 L.length) (hD : D.Pairwise (· < ·)) (hx : x ∉ D) : L.Pairwise (· < ·) := by
  have hnd : (D ++ [x]).Nodup := by
    rw [List.nodup_append]
    refine ⟨hD.imp (fun h => by omega), by simp, fun a ha b hb e => ?_⟩
    rw [List.mem_singleton.1 hb] at e
    exact hx (e ▸ ha)
  have hn2 : L.Nodup := hp.nodup_iff.2 hnd
  rw [List.pairwise_iff_getElem]
  intro i j hi hj hij
  have h1 := hA i j _ _ (Nat.zero_le _) hij hj (List.getElem?_eq_getElem hi) (List.getElem?_eq_getElem hj)
  have h2 : L[i] ≠ L[j] := List.pairwise_iff_getElem.1 hn2 i j hi hj hij
  simp only [ltU] at h1; omega
set_option maxHeartbeats 2000000 in
theorem bound_v {base : Nat} {v : Value} (D : List Int) (x : Int) (w : World) (hO : Own w base 53 1 v (D.map uc)) (hD : D.Pairwise (· < ·)) (hne : D ≠ []) (hn : D.length ≤ 100000000) (hb : base ≤ w.heap.size) :
    Calls Try.prog 85 #[v, .int .u64 x] w (Does (fun c => v.ownBlock = some c) (BoundR base D x v w) w) := by
  obtain ⟨g, cap, rfl, hgb, hglt, _⟩ := hO.addr (by simpa using hne)
  rw [List.length_map] at hO ⊢
  have hD0 : DatU w base g D.length cap D := ⟨hO, rfl⟩
  refine V_enter (vs := [_, _]) Try.func85 rfl Try.ntmps85 (Nat.le_of_ble_eq_true rfl) ?_
  repeat (first | refine Vx ?_ | (apply Ops_q; (case hon => exact Va); (case hd => rfl); (case hq => exact YlA)) | refine Vr ?_ | refine Vt ?_ | refine Vf ?_ | refine Vm ?_ | refine Ve ?_ | refine Vo ?_ | refine Vz ?_ | refine Vn ?_)
  refine V_loop (fun k : Nat => [(11, .int .i64 k), (10, .int .i64 D.length), (9, .slice (some ⟨g, 0, none⟩) D.length cap), (0, .slice (some ⟨g, 0, none⟩) D.length cap), (1, .int .u64 x)]) (fun k w' => Ext w w' ∧ k ≤ D.length ∧ ∀ y ∈ D.take k, y ≠ x) (fun k => D.length - k) 0 (by repeat (first | exact trivial | refine ⟨rfl, ?_⟩)) ⟨Ext.refl _, Nat.zero_le _, by simp⟩ ?_
  rintro k w1 ⟨x1, hk, hs⟩
  have D1 := hD0.ext x1
  repeat (first | refine Vx ?_ | (apply Ops_q; (case hon => exact Va); (case hd => rfl); (case hq => exact YlA)) | refine Vr ?_ | refine Vt ?_ | refine Vf ?_ | refine Vm ?_ | refine Ve ?_ | refine Vo ?_ | refine Vz ?_ | refine Vn ?_)
  refine V_cond rfl (fun hg => ?_) (fun hg => ?_)
  · replace hg := of_decide_eq_true hg
    have hkl : k < D.length := by omega
    obtain ⟨y, hy⟩ := D1.get hkl
    have hcy := D1.at hy
    repeat (first | refine Vx ?_ | (apply Ops_q; (case hon => exact Va); (case hd => rfl); (case hq => exact YlA)) | refine Vr ?_ | refine Vt ?_ | refine Vf ?_ | refine Vm ?_ | refine Ve ?_ | refine Vo ?_ | refine Vz ?_ | refine Vn ?_)
    (apply Ops_q; (case hon => (exact Va)); (case hd => rfl); (case hq => exact Yl_indexS (j := k) rfl rfl (by omega)))
    repeat (first | refine Vx ?_ | (apply Ops_q; (case hon => exact Va); (case hd => rfl); (case hq => exact YlA)) | refine Vr ?_ | refine Vt ?_ | refine Vf ?_ | refine Vm ?_ | refine Ve ?_ | refine Vo ?_ | refine Vz ?_ | refine Vn ?_)
    refine V_cond rfl (fun he => ?_) (fun he => ?_)
    · replace he := of_decide_eq_true he
      repeat (first | refine Vx ?_ | (apply Ops_q; (case hon => exact Va); (case hd => rfl); (case hq => exact YlA)) | refine Vr ?_ | refine Vt ?_ | refine Vf ?_ | refine Vm ?_ | refine Ve ?_ | refine Vo ?_ | refine Vz ?_ | refine Vn ?_)
      refine ret1 (by first | exact .inl rfl | exact .inr rfl) rfl rfl ?_
      refine Does_mk (fun w' hw => ⟨D, hO.ext (x1.trans hw), hD, fun z => ⟨.inl, fun h => h.elim id fun e => ?_⟩, Nat.le_succ _, fun c hc => .inl hc⟩) (.of_ext x1)
      rw [e, ← he]; exact List.mem_of_getElem? hy
    · replace he := of_decide_eq_false he
      repeat (first | refine Vx ?_ | (apply Ops_q; (case hon => exact Va); (case hd => rfl); (case hq => exact YlA)) | refine Vr ?_ | refine Vt ?_ | refine Vf ?_ | refine Vm ?_ | refine Ve ?_ | refine Vo ?_ | refine Vz ?_ | refine Vn ?_)
      refine ⟨k + 1, (by repeat (first | exact trivial | refine ⟨rfl, ?_⟩)), ⟨x1, hkl, fun z hz => ?_⟩, by omega⟩
      rw [List.take_add_one, hy, List.mem_append] at hz
      rcases hz with h | h
      · exact hs z h
      · simp at h; rw [h]; exact he
  replace hg := of_decide_eq_false hg
  obtain rfl : k = D.length := by omega
  rw [List.take_length] at hs
  have hxD : x ∉ D := fun h => hs x h rfl
  repeat (first | refine Vx ?_ | (apply Ops_q; (case hon => exact Va); (case hd => rfl); (case hq => exact YlA)) | refine Vr ?_ | refine Vt ?_ | refine Vf ?_ | refine Vm ?_ | refine Ve ?_ | refine Vo ?_ | refine Vz ?_ | refine Vn ?_)
  (refine Ops_lit (by exact Va) rfl rfl rfl ?_; intro w2 b2 n_b2; have k_b2 := n_b2.blk)
  have O2 := hO.ext (x1.trans n_b2.ext)
  repeat (first | refine Vx ?_ | (apply Ops_q; (case hon => exact Va); (case hd => rfl); (case hq => exact YlA)) | refine Vr ?_ | refine Vt ?_ | refine Vf ?_ | refine Vm ?_ | refine Ve ?_ | refine Vo ?_ | refine Vz ?_ | refine Vn ?_)
  (refine Ops_append1 (by exact Va) rfl rfl rfl rfl O2 k_b2.cells inferInstance inferInstance (by first | omega | (rw [List.length_map]; omega)) rfl (Nat.le_trans hb (x1.trans n_b2.ext).size) ?_; intro v' w3 o_v' g_w3 d_v')
  have O3 : Own w3 base 53 1 v' ((D ++ [x]).map uc) := by rw [List.map_append]; exact o_v'
  have m3 : Mod (fun c => (Value.slice (some ⟨g, 0, none⟩) D.length cap).ownBlock = some c) w w3 := (Mod.of_ext (x1.trans n_b2.ext)).grow g_w3 (fun b hb => .inl hb)
  obtain ⟨g', cap', rfl, hgb', hglt', _⟩ := O3.addr (by simp)
  rw [List.length_map] at O3 ⊢
  have D3 : DatU w3 base g' (D ++ [x]).length cap' (D ++ [x]) := ⟨O3, rfl⟩
  have hfr : ∀ c, c = g' → (Value.slice (some ⟨g, 0, none⟩) D.length cap).ownBlock = some c ∨ w.heap.size ≤ c := fun c hc => by
    rcases d_v' with h | ⟨b, h, h2⟩
    · left; rw [← h, hc]; rfl
    · right
      have : (Value.slice (some ⟨g', 0, none⟩) ((D ++ [x]).map uc).length cap').ownBlock = some g' := rfl
      rw [this] at h; cases h
      rw [hc]; exact Nat.le_trans (x1.trans n_b2.ext).size h2
  have hlen : (D ++ [x]).length = D.length + 1 := by simp
  have hA0 : Asc ltU (D ++ [x]) 0 D.length := fun i j a b _ hij hj ha hb' => by
    rw [List.getElem?_append_left (by omega)] at ha hb'
    obtain ⟨hi, rfl⟩ := List.getElem?_eq_some_iff.1 ha
    obtain ⟨hj', rfl⟩ := List.getElem?_eq_some_iff.1 hb'
    have := List.pairwise_iff_getElem.1 hD i j hi hj' hij
    simp only [ltU]; omega
  generalize hE : D ++ [x] = E at *
  have el : (E.length : Int) - 1 = (D.length : Int) := by omega
  clear o_v' O3 k_b2 n_b2 O2 g_w3
  repeat (first | refine Vx ?_ | (apply Ops_q; (case hon => exact Va); (case hd => rfl); (case hq => exact YlA)) | refine Vr ?_ | refine Vt ?_ | refine Vf ?_ | refine Vm ?_ | refine Ve ?_ | refine Vo ?_ | refine Vz ?_ | refine Vn ?_)
  rw [el]
  refine V_loop (fun s : Nat × List Int => [(7, .int .i64 s.1), (0, .slice (some ⟨g', 0, none⟩) E.length cap')])
    (fun s w' => s.1 ≤ D.length ∧ Mod (fun c => (Value.slice (some ⟨g, 0, none⟩) D.length cap).ownBlock = some c) w w' ∧ DatU w' base g' E.length cap' s.2 ∧ Moved E s.2 0 E.length ∧ AscX ltU s.2 0 E.length s.1) (fun s => s.1) (D.length, E) (by repeat (first | exact trivial | refine ⟨rfl, ?_⟩))
    ⟨Nat.le_refl _, m3, D3, Moved.refl .., by dsimp only; rw [hlen]; exact AscX.start hA0⟩ ?_
  clear m3 D3 hA0 el
  rintro ⟨i, M⟩ w4 ⟨hi, m4, D4, hM, hA⟩
  dsimp only at hi D4 hM hA ⊢
  have hMl := D4.len
  have hend : ∀ w5, Ext w4 w5 → (i ≤ 0 ∨ ∃ a b, M[i]? = some a ∧ M[i - 1]? = some b ∧ ¬ltU a b < 0) → BoundR base D x (.slice (some ⟨g, 0, none⟩) D.length cap) w (.slice (some ⟨g', 0, none⟩) E.length cap') w5 := fun w5 h5 hst => by
    have hAA := hA.stop ordU hst
    refine ⟨M, (D4.ext h5).own, strict_of (hE ▸ hM.perm) (by rw [hMl]; exact hAA) hD hxD, fun y => ?_, by rw [hMl, hlen]; exact Nat.le_refl _, fun c hc => hfr c ?_⟩
    · rw [hM.perm.mem_iff, ← hE]; simp
    · cases hc; rfl
  by_cases hi0 : 0 < i
  · obtain ⟨p, rfl⟩ : ∃ p, i = p + 1 := ⟨i - 1, by omega⟩
    have hs1 : ((p + 1 : Nat) : Int) - 1 = (p : Int) := by omega
    have hd : decide ((0 : Int) < ((p + 1 : Nat) : Int)) = true := decide_eq_true (by omega)
    obtain ⟨a, ha⟩ := D4.get (k := p + 1) (by omega)
    obtain ⟨b, hb2⟩ := D4.get (k := p) (by omega)
    have hca := D4.at ha
    have hcb := D4.at hb2
    repeat (first | refine Vx ?_ | (apply Ops_q; (case hon => exact Va); (case hd => rfl); (case hq => exact YlA)) | refine Vr ?_ | refine Vt ?_ | refine Vf ?_ | refine Vm ?_ | refine Ve ?_ | refine Vo ?_ | refine Vz ?_ | refine Vn ?_)
    refine Ops_know rfl rfl hd ?_
    repeat (first | refine Vx ?_ | (apply Ops_q; (case hon => exact Va); (case hd => rfl); (case hq => exact YlA)) | refine Vr ?_ | refine Vt ?_ | refine Vf ?_ | refine Vm ?_ | refine Ve ?_ | refine Vo ?_ | refine Vz ?_ | refine Vn ?_)
    rw [hs1]
    (apply Ops_q; (case hon => (exact Va)); (case hd => rfl); (case hq => exact Yl_indexS (j := p) rfl rfl (by omega)))
    repeat (first | refine Vx ?_ | (apply Ops_q; (case hon => exact Va); (case hd => rfl); (case hq => exact YlA)) | refine Vr ?_ | refine Vt ?_ | refine Vf ?_ | refine Vm ?_ | refine Ve ?_ | refine Vo ?_ | refine Vz ?_ | refine Vn ?_)
    (apply Ops_q; (case hon => (exact Va)); (case hd => rfl); (case hq => exact Yl_indexS (j := (p + 1)) rfl rfl (by omega)))
    repeat (first | refine Vx ?_ | (apply Ops_q; (case hon => exact Va); (case hd => rfl); (case hq => exact YlA)) | refine Vr ?_ | refine Vt ?_ | refine Vf ?_ | refine Vm ?_ | refine Ve ?_ | refine Vo ?_ | refine Vz ?_ | refine Vn ?_)
    refine V_cond rfl (fun hlt => ?_) (fun hlt => ?_)
    · replace hlt := of_decide_eq_true hlt
      have hl2 : ltU a b < 0 := by simp only [ltU]; omega
      repeat (first | refine Vx ?_ | (apply Ops_q; (case hon => exact Va); (case hd => rfl); (case hq => exact YlA)) | refine Vr ?_ | refine Vt ?_ | refine Vf ?_ | refine Vm ?_ | refine Ve ?_ | refine Vo ?_ | refine Vz ?_ | refine Vn ?_)
      (apply Ops_q; (case hon => (exact Va)); (case hd => rfl); (case hq => exact Yl_indexS (j := (p + 1)) rfl rfl (by omega)))
      repeat (first | refine Vx ?_ | (apply Ops_q; (case hon => exact Va); (case hd => rfl); (case hq => exact YlA)) | refine Vr ?_ | refine Vt ?_ | refine Vf ?_ | refine Vm ?_ | refine Ve ?_ | refine Vo ?_ | refine Vz ?_ | refine Vn ?_)
      rw [hs1]
      (apply Ops_q; (case hon => (exact Va)); (case hd => rfl); (case hq => exact Yl_indexS (j := p) rfl rfl (by omega)))
      repeat (first | refine Vx ?_ | (apply Ops_q; (case hon => exact Va); (case hd => rfl); (case hq => exact YlA)) | refine Vr ?_ | refine Vt ?_ | refine Vf ?_ | refine Vm ?_ | refine Ve ?_ | refine Vo ?_ | refine Vz ?_ | refine Vn ?_)
      (apply Ops_q; (case hon => (exact Va)); (case hd => rfl); (case hq => exact Yl_indexS (j := (p + 1)) rfl rfl (by omega)))
      repeat (first | refine Vx ?_ | (apply Ops_q; (case hon => exact Va); (case hd => rfl); (case hq => exact YlA)) | refine Vr ?_ | refine Vt ?_ | refine Vf ?_ | refine Vm ?_ | refine Ve ?_ | refine Vo ?_ | refine Vz ?_ | refine Vn ?_)
      refine Ops_storeDatU (i := p + 1) (v := b) (by exact Va) rfl rfl rfl D4 (by omega) ?_
      intro w5 D5 g5
      repeat (first | refine Vx ?_ | (apply Ops_q; (case hon => exact Va); (case hd => rfl); (case hq => exact YlA)) | refine Vr ?_ | refine Vt ?_ | refine Vf ?_ | refine Vm ?_ | refine Ve ?_ | refine Vo ?_ | refine Vz ?_ | refine Vn ?_)
      rw [hs1]
      repeat (first | refine Vx ?_ | (apply Ops_q; (case hon => exact Va); (case hd => rfl); (case hq => exact YlA)) | refine Vr ?_ | refine Vt ?_ | refine Vf ?_ | refine Vm ?_ | refine Ve ?_ | refine Vo ?_ | refine Vz ?_ | refine Vn ?_)
      (apply Ops_q; (case hon => (exact Va)); (case hd => rfl); (case hq => exact Yl_indexS (j := p) rfl rfl (by omega)))
      repeat (first | refine Vx ?_ | (apply Ops_q; (case hon => exact Va); (case hd => rfl); (case hq => exact YlA)) | refine Vr ?_ | refine Vt ?_ | refine Vf ?_ | refine Vm ?_ | refine Ve ?_ | refine Vo ?_ | refine Vz ?_ | refine Vn ?_)
      refine Ops_storeDatU (i := p) (v := a) (by exact Va) rfl rfl rfl D5 (by omega) ?_
      intro w6 D6 g6
      have m6 : Mod (fun c => (Value.slice (some ⟨g, 0, none⟩) D.length cap).ownBlock = some c) w w6 := (m4.grow g5 (fun b hb => hfr b (by cases hb; rfl))).grow g6 (fun b hb => hfr b (by cases hb; rfl))
      have hsw : (M.set (p + 1) b).set p a = swp M (p + 1) p := by unfold swp; rw [ha, hb2]
      rw [hsw] at D6
      repeat (first | refine Vx ?_ | (apply Ops_q; (case hon => exact Va); (case hd => rfl); (case hq => exact YlA)) | refine Vr ?_ | refine Vt ?_ | refine Vf ?_ | refine Vm ?_ | refine Ve ?_ | refine Vo ?_ | refine Vz ?_ | refine Vn ?_)
      rw [hs1]
      refine ⟨(p, swp M (p + 1) p), (by repeat (first | exact trivial | refine ⟨rfl, ?_⟩)), ⟨by dsimp only; omega, m6, D6, hM.trans (Moved.swp (by omega) (by omega) (by omega)), hA.step ordU (Nat.zero_le _) (by omega) (by omega) ha hb2 hl2⟩, by simp only; omega⟩
    · replace hlt := of_decide_eq_false hlt
      repeat (first | refine Vx ?_ | (apply Ops_q; (case hon => exact Va); (case hd => rfl); (case hq => exact YlA)) | refine Vr ?_ | refine Vt ?_ | refine Vf ?_ | refine Vm ?_ | refine Ve ?_ | refine Vo ?_ | refine Vz ?_ | refine Vn ?_)
      refine ret1 (by first | exact .inl rfl | exact .inr rfl) rfl rfl ?_
      exact Does_mk (fun w' he => hend w' he (.inr ⟨a, b, ha, hb2, by simp only [ltU]; omega⟩)) m4
  · have hd : decide ((0 : Int) < (i : Int)) = false := decide_eq_false (by omega)
    repeat (first | refine Vx ?_ | (apply Ops_q; (case hon => exact Va); (case hd => rfl); (case hq => exact YlA)) | refine Vr ?_ | refine Vt ?_ | refine Vf ?_ | refine Vm ?_ | refine Ve ?_ | refine Vo ?_ | refine Vz ?_ | refine Vn ?_)
    refine Ops_know rfl rfl hd ?_
    repeat (first | refine Vx ?_ | (apply Ops_q; (case hon => exact Va); (case hd => rfl); (case hq => exact YlA)) | refine Vr ?_ | refine Vt ?_ | refine Vf ?_ | refine Vm ?_ | refine Ve ?_ | refine Vo ?_ | refine Vz ?_ | refine Vn ?_)
    refine ret1 (by first | exact .inl rfl | exact .inr rfl) rfl rfl ?_
    exact Does_mk (fun w' he => hend w' he (.inl (by omega))) m4
end Go.Proofs.Ytjpnaofoeeegeaa

/-
  Tables (layer 7): the reference's Bounds.
  Conditions: the lists are not too long for a machine.
-/
namespace Go.Proofs.Ytjpnaofoeeegeaa
open Go.RowKit

theorem refMask (n : Int) (w : World) :
    Calls Try.prog 101 #[.int .i64 n] w fun e w' => e = .returned (.int .u32 (maskN (lowN n 32))) ∧ w = w' := by
  have hle := lowN_le n 32
  go_enter Try.func101, Try.ntmps101
  go_wp2_with (go_at_call 102; refine (low32 _ _).mono ?_; rintro e w' ⟨rfl, rfl⟩)
  go_loop [3, 7] (fun y j => ∃ k : Nat, k ≤ lowN n 32 ∧ j = .int .i64 k ∧ y = .int .u32 (maskN k)) (fun _ j => 32 - (intOf j).toNat)
  case atStart => exact ⟨0, Nat.zero_le _, rfl, by rw [maskN_zero]; rfl⟩
  case round =>
    obtain ⟨k, hk, rfl, rfl⟩ := hrel
    by_cases hlt : k < lowN n 32
    · have hs := Lib.hid (mask_step k (by omega))
      go_wp2
      go_round
      case rel => exact ⟨k + 1, by omega, by go_num, by rw [← hs.out]⟩
      case measure => simp [intOf]; omega
    · go_wp2
      go_ret
      exact ⟨ret_int (by rw [show k = lowN n 32 by omega]), rfl⟩

theorem maskR_v (n : Int) (w : World) : Calls Try.prog 101 #[.int .i64 n] w (Ret (.int .u32 (maskN (lowN n 32))) w) :=
  (refMask n w).mono fun _ _ ⟨h1, h2⟩ => ⟨h1, h2 ▸ Ext.refl _⟩
theorem rlast_v (p : Pf) (w : World) (ha : p.a < 4294967296) (hv : p.valid = true) : Calls Try.prog 86 #[p.val] w (Ret (.int .u32 p.last) w) := by
  obtain ⟨v1, v2, v3⟩ := Pf.valid_iff.1 hv
  have hl := last_eq v3 (by omega) ha
  have hmk := maskN_lt p.n.toNat
  have es : (4294967295 : Int) - (maskN p.n.toNat : Int) = ((4294967295 - maskN p.n.toNat : Nat) : Int) := by omega
  refine V_enter (vs := [_]) Try.func86 rfl Try.ntmps86 (Nat.le_of_ble_eq_true rfl) ?_
  repeat (first | refine Vx ?_ | (apply Ops_q; (case hon => exact Va); (case hd => rfl); (case hq => exact YlA)) | refine Vr ?_ | refine Vt ?_ | refine Vf ?_ | refine Vm ?_ | refine Ve ?_ | refine Vo ?_ | refine Vz ?_ | refine Vn ?_)
  (refine Ops_box (by exact Va) rfl rfl rfl ?_; intro w1 b1 n_b1; have k_b1 := n_b1.blk)
  repeat (first | refine Vx ?_ | (apply Ops_q; (case hon => exact Va); (case hd => rfl); (case hq => exact YlA)) | refine Vr ?_ | refine Vt ?_ | refine Vf ?_ | refine Vm ?_ | refine Ve ?_ | refine Vo ?_ | refine Vz ?_ | refine Vn ?_)
  have hm := fun w_ => maskR_v p.n w_
  rw [lowN_in v1 v2] at hm
  (apply Ops_q; (case hon => (exact Va)); (case hd => rfl); (case hq => exact Yl_call rfl (fun w_ e_ => hm w_)))
  repeat (first | refine Vx ?_ | (apply Ops_q; (case hon => exact Va); (case hd => rfl); (case hq => exact YlA)) | refine Vr ?_ | refine Vt ?_ | refine Vf ?_ | refine Vm ?_ | refine Ve ?_ | refine Vo ?_ | refine Vz ?_ | refine Vn ?_)
  refine ret1 (by first | exact .inl rfl | exact .inr rfl) rfl rfl ?_
  refine Ret_mk ?_ n_b1.ext
  rw [Pf.last, if_pos hv, ← hl, ← es]
/-- What Bounds returns. -/
def BndsR (w : World) (L : List En) (r : Value) (w' : World) : Prop := ∃ D : List Int, Own w' w.heap.size 53 1 r (D.map uc) ∧ D ≠ [] ∧ D.Pairwise (· < ·) ∧ D.length ≤ 2 * L.length + 1 ∧ ∀ x, x ∈ D ↔ (x = 0 ∨ x ∈ words L) ∧ x ≠ 4294967296
set_option maxHeartbeats 2000000 in
theorem boundsR_v (ao : Option Addr) (L : List En) (c : Nat) (w : World) (hL : Ens w ao L) (hLa : ∀ e ∈ L, e.p.a < 4294967296) (hLv : ∀ e ∈ L, e.p.valid = true) (hn : L.length ≤ 2000000) :
    Calls Try.prog 47 #[.slice ao L.length c] w (Gives (BndsR w L) w) := by
  refine V_enter (vs := [_]) Try.func47 rfl Try.ntmps47 (Nat.le_of_ble_eq_true rfl) ?_
  repeat (first | refine Vx ?_ | (apply Ops_q; (case hon => exact Va); (case hd => rfl); (case hq => exact YlA)) | refine Vr ?_ | refine Vt ?_ | refine Vf ?_ | refine Vm ?_ | refine Ve ?_ | refine Vo ?_ | refine Vz ?_ | refine Vn ?_)
  (refine Ops_lit (by exact Va) rfl rfl rfl ?_; intro w1 b1 n_b1; have k_b1 := n_b1.blk)
  have o1 : Own w1 w.heap.size 53 1 (.slice (some ⟨b1, 0, none⟩) 1 1) (([0] : List Int).map uc) := own_lit1 n_b1
  have x1 := n_b1.ext
  clear k_b1 n_b1
  repeat (first | refine Vx ?_ | (apply Ops_q; (case hon => exact Va); (case hd => rfl); (case hq => exact YlA)) | refine Vr ?_ | refine Vt ?_ | refine Vf ?_ | refine Vm ?_ | refine Ve ?_ | refine Vo ?_ | refine Vz ?_ | refine Vn ?_)
  refine V_loop (fun s : Nat × Value × List Int => [(10, .int .i64 s.1), (9, .int .i64 L.length), (8, .slice ao L.length c), (3, s.2.1)])
    (fun s w' => s.1 ≤ L.length ∧ Ext w w' ∧ Own w' w.heap.size 53 1 s.2.1 (s.2.2.map uc) ∧ s.2.2 ≠ [] ∧ s.2.2.Pairwise (· < ·) ∧ s.2.2.length ≤ 2 * s.1 + 1 ∧ ∀ x, x ∈ s.2.2 ↔ (x = 0 ∨ x ∈ words (L.take s.1)) ∧ x ≠ 4294967296) (fun s => L.length - s.1) (0, .slice (some ⟨b1, 0, none⟩) 1 1, [0]) (by repeat (first | exact trivial | refine ⟨rfl, ?_⟩))
    ⟨Nat.zero_le _, x1, o1, by simp, List.pairwise_singleton .., by simp, fun x => by simp [words]; omega⟩ ?_
  clear o1 x1
  rintro ⟨k, v, D⟩ w1 ⟨hk, x1, o1, hne, hD, hlen, hmem⟩
  dsimp only at hk o1 hne hD hlen hmem ⊢
  repeat (first | refine Vx ?_ | (apply Ops_q; (case hon => exact Va); (case hd => rfl); (case hq => exact YlA)) | refine Vr ?_ | refine Vt ?_ | refine Vf ?_ | refine Vm ?_ | refine Ve ?_ | refine Vo ?_ | refine Vz ?_ | refine Vn ?_)
  refine V_cond rfl (fun hg => ?_) (fun hg => ?_)
  · replace hg := of_decide_eq_true hg
    have hkl : k < L.length := by omega
    obtain ⟨x, hx⟩ : ∃ x, L[k]? = some x := ⟨_, List.getElem?_eq_getElem hkl⟩
    obtain ⟨ad, rfl, hc⟩ := hL.at hx
    have hxa := hLa x (List.mem_of_getElem? hx)
    have hxl := last_lt' x.p hxa
    have hwd := words_snoc hx
    have hcl := fun w_ => rlast_v x.p w_ hxa (hLv x (List.mem_of_getElem? hx))
    generalize x.p.last = ll at *
    have hc1 : Cells w1 (ad.add (k * 3)) [.int .u32 x.p.a, .int .i64 x.p.n, .int .i64 x.v] := hc.ext x1
    repeat (first | refine Vx ?_ | (apply Ops_q; (case hon => exact Va); (case hd => rfl); (case hq => exact YlA)) | refine Vr ?_ | refine Vt ?_ | refine Vf ?_ | refine Vm ?_ | refine Ve ?_ | refine Vo ?_ | refine Vz ?_ | refine Vn ?_)
    (apply Ops_q; (case hon => (exact Va)); (case hd => rfl); (case hq => exact Yl_indexS (j := k) rfl rfl (by omega)))
    repeat (first | refine Vx ?_ | (apply Ops_q; (case hon => exact Va); (case hd => rfl); (case hq => exact YlA)) | refine Vr ?_ | refine Vt ?_ | refine Vf ?_ | refine Vm ?_ | refine Ve ?_ | refine Vo ?_ | refine Vz ?_ | refine Vn ?_)
    (refine Ops_alloc (by exact Va) rfl ?_; intro w2 b2 n_b2; have k_b2 := n_b2.blk)
    repeat (first | refine Vx ?_ | (apply Ops_q; (case hon => exact Va); (case hd => rfl); (case hq => exact YlA)) | refine Vr ?_ | refine Vt ?_ | refine Vf ?_ | refine Vm ?_ | refine Ve ?_ | refine Vo ?_ | refine Vz ?_ | refine Vn ?_)
    (refine Ops_store (by exact Va) rfl rfl (by assumption) (by first | rfl | exact OneAll.h) ?_; intro w3 u_w3; have k_b2 := u_w3.blk)
    have x3 := u_w3.below (x1.trans n_b2.ext) (Nat.le_trans x1.size n_b2.ge)
    have hb2 : v.ownBlock ≠ some b2 := fun e => by have := o1.lt e; have := n_b2.ge; omega
    have o3 := (o1.ext n_b2.ext).upd u_w3 hb2
    have hb2w : w.heap.size ≤ b2 := Nat.le_trans x1.size n_b2.ge
    have hb2l := k_b2.lt
    clear u_w3 n_b2
    repeat (first | refine Vx ?_ | (apply Ops_q; (case hon => exact Va); (case hd => rfl); (case hq => exact YlA)) | refine Vr ?_ | refine Vt ?_ | refine Vf ?_ | refine Vm ?_ | refine Ve ?_ | refine Vo ?_ | refine Vz ?_ | refine Vn ?_)
    refine Ops_callM (S := fun c => v.ownBlock = some c) (R := fun w0 => BoundR w.heap.size D (x.p.a : Int) v w0) (by exact Va) rfl rfl (fun w_ e_ => bound_v D x.p.a w_ (o3.ext e_) hD hne (by omega) (Nat.le_trans x3.size e_.size)) ?_
    intro v4 w4 w0_ e0 m4 hR
    obtain ⟨D4, o4, hD4, hm4, hl4, hf4⟩ := hR
    have x4 : Ext w w4 := Mod.ext_of (x3.trans e0) m4 (fun c hc => o1.ge hc)
    have k4 := m4.blk (k_b2.ext e0) (fun e => hb2 e)
    have hb4 : v4.ownBlock ≠ some b2 := fun e => by
      rcases hf4 b2 e with h | h
      · exact hb2 h
      · have := e0.size; omega
    have hne4 : D4 ≠ [] := fun e => by have := (hm4 x.p.a).2 (.inr rfl); rw [e] at this; cases this
    have hpart : Cells w4 ⟨b2, 0, none⟩ [.int .u32 x.p.a, .int .i64 x.p.n] := k4.part 0 2
    clear m4 e0 o3 hf4
    repeat (first | refine Vx ?_ | (apply Ops_q; (case hon => exact Va); (case hd => rfl); (case hq => exact YlA)) | refine Vr ?_ | refine Vt ?_ | refine Vf ?_ | refine Vm ?_ | refine Ve ?_ | refine Vo ?_ | refine Vz ?_ | refine Vn ?_)
    (apply Ops_q; (case hon => (exact Va)); (case hd => rfl); (case hq => exact Yl_call rfl (fun w_ e_ => hcl w_)))
    repeat (first | refine Vx ?_ | (apply Ops_q; (case hon => exact Va); (case hd => rfl); (case hq => exact YlA)) | refine Vr ?_ | refine Vm ?_ | refine Ve ?_ | refine Vo ?_ | refine Vz ?_ | refine Vn ?_)
    refine V_cond rfl (fun hend => ?_) (fun hend => ?_)
    · have hend' := of_decide_eq_true hend
      have hend2 : ll + 1 < 4294967296 := by omega
      clear hend hend'
      repeat (first | refine Vx ?_ | (apply Ops_q; (case hon => exact Va); (case hd => rfl); (case hq => exact YlA)) | refine Vr ?_ | refine Vt ?_ | refine Vf ?_ | refine Vm ?_ | refine Ve ?_ | refine Vo ?_ | refine Vz ?_ | refine Vn ?_)
      refine Ops_callM (S := fun c => v4.ownBlock = some c) (R := fun w0 => BoundR w.heap.size D4 ((ll : Int) + 1) v4 w0) (by exact Va) rfl rfl (fun w_ e_ => bound_v D4 ((ll : Int) + 1) w_ (o4.ext e_) hD4 hne4 (by omega) (Nat.le_trans x4.size e_.size)) ?_
      intro v5 w5 w0_ e0 m5 hR
      obtain ⟨D5, o5, hD5, hm5, hl5, hf5⟩ := hR
      have x5 : Ext w w5 := Mod.ext_of (x4.trans e0) m5 (fun c hc => o4.ge hc)
      repeat (first | refine Vx ?_ | (apply Ops_q; (case hon => exact Va); (case hd => rfl); (case hq => exact YlA)) | refine Vr ?_ | refine Vt ?_ | refine Vf ?_ | refine Vm ?_ | refine Ve ?_ | refine Vo ?_ | refine Vz ?_ | refine Vn ?_)
      refine ⟨(k + 1, v5, D5), (by repeat (first | exact trivial | refine ⟨rfl, ?_⟩)), ⟨hkl, x5, o5, fun e => ?_, hD5, by dsimp only; omega, fun z => ?_⟩, by simp only; omega⟩
      · have := (hm5 ((ll : Int) + 1)).2 (.inr rfl); dsimp only at e; rw [e] at this; cases this
      · dsimp only
        rw [hm5, hm4, hmem, hwd, List.mem_append]
        simp only [List.mem_cons, List.not_mem_nil, or_false]
        constructor
        · rintro ((⟨h | h, h2⟩ | h) | h)
          · exact ⟨.inl h, h2⟩
          · exact ⟨.inr (.inl h), h2⟩
          · exact ⟨.inr (.inr (.inl h)), by omega⟩
          · exact ⟨.inr (.inr (.inr h)), by omega⟩
        · rintro ⟨h | h | h | h, h2⟩
          · exact .inl (.inl ⟨.inl h, h2⟩)
          · exact .inl (.inl ⟨.inr h, h2⟩)
          · exact .inl (.inr h)
          · exact .inr h
    · have hend' := of_decide_eq_false hend
      have hend2 : 4294967296 ≤ ll + 1 := by omega
      clear hend hend'
      repeat (first | refine Vx ?_ | (apply Ops_q; (case hon => exact Va); (case hd => rfl); (case hq => exact YlA)) | refine Vr ?_ | refine Vt ?_ | refine Vf ?_ | refine Vm ?_ | refine Ve ?_ | refine Vo ?_ | refine Vz ?_ | refine Vn ?_)
      refine ⟨(k + 1, v4, D4), (by repeat (first | exact trivial | refine ⟨rfl, ?_⟩)), ⟨hkl, x4, o4, hne4, hD4, by dsimp only; omega, fun z => ?_⟩, by simp only; omega⟩
      dsimp only
      rw [hm4, hmem, hwd, List.mem_append]
      simp only [List.mem_cons, List.not_mem_nil, or_false]
      constructor
      · rintro (⟨h | h, h2⟩ | h)
        · exact ⟨.inl h, h2⟩
        · exact ⟨.inr (.inl h), h2⟩
        · exact ⟨.inr (.inr (.inl h)), by omega⟩
      · rintro ⟨h | h | h | h, h2⟩
        · exact .inl ⟨.inl h, h2⟩
        · exact .inl ⟨.inr h, h2⟩
        · exact .inr h
        · omega
  · replace hg := of_decide_eq_false hg
    obtain rfl : k = L.length := by omega
    rw [List.take_length] at hmem
    repeat (first | refine Vx ?_ | (apply Ops_q; (case hon => exact Va); (case hd => rfl); (case hq => exact YlA)) | refine Vr ?_ | refine Vt ?_ | refine Vf ?_ | refine Vm ?_ | refine Ve ?_ | refine Vo ?_ | refine Vz ?_ | refine Vn ?_)
    refine ret1 (by first | exact .inl rfl | exact .inr rfl) rfl rfl ?_
    exact Gives_mk (fun w' he => ⟨D, o1.ext he, hne, hD, hlen, hmem⟩) x1
end Go.Proofs.Ytjpnaofoeeegeaa

/-
  Layer 6 (trie): the chapter's example; which entry a lookup returns.
  Conditions: addresses are below 2^32.
-/
namespace Go.Proofs.Ytjpnaofoeeegeaa
open Go.RowKit

def lAw : List En := [⟨⟨167772160, 8⟩, 1⟩, ⟨⟨167837696, 16⟩, 2⟩]
theorem Ens.of_blk {w : World} {b : Nat} {t : TypeId} {cs : List Value} {L : List En} (h : Blk w b t cs) (e : (L.map En.cells).flatten = cs) : Ens w (some ⟨b, 0, none⟩) L := by
  refine fun k x hk => ⟨_, rfl, cells_flat (n0 := 3) ?_ (fun x hx => ?_) k x hk⟩
  · rw [e]; exact h.cells
  · obtain ⟨y, _, rfl⟩ := List.mem_map.1 hx
    rfl
theorem lookup_at {base b0 : Nat} {N : Nat → Nat → Option Nat} {E : Nat → Nat → Option Int} {cnt : Int} (a : Nat) (o : Option En) (w : World) (h : TrieM w base b0 N E cnt) (ha : a < 4294967296) (ho : lookE E a = o) :
    Calls Try.prog 15 #[.pointer (some ⟨b0, 0, none⟩), .int .u32 a] w (Ret (.tuple #[(o.getD En.zero).val, .bool o.isSome]) w) := by
  subst ho; exact lookup_v a w h ha
end Go.Proofs.Ytjpnaofoeeegeaa

/-
  Layer 6 (trie): a lookup returns the entry with the longest prefix.
  Conditions: addresses are below 2^32.
-/
namespace Go.Proofs.Ytjpnaofoeeegeaa
open Go.RowKit

def lu (E : Nat → Nat → Option Int) (a : Nat) : Nat → Option En
  | 0 => none
  | m + 1 => match E (top a m) m with
    | some v => some ⟨⟨top a m, m⟩, v⟩
    | none => lu E a m
theorem pre_last (E : Nat → Nat → Option Int) (a : Nat) : ∀ m, (pre E a m).getLast? = lu E a m
  | 0 => rfl
  | m + 1 => by
    rw [pre_succ, lu]
    cases h : E (top a m) m with
    | some v => simp [adds]
    | none => simp [adds, pre_last E a m]
theorem lu_none {E : Nat → Nat → Option Int} {a : Nat} : ∀ {m : Nat}, lu E a m = none → ∀ j, j < m → E (top a j) j = none
  | 0, _, j, hj => by omega
  | m + 1, h, j, hj => by
    rw [lu] at h
    cases hE : E (top a m) m with
    | some v => rw [hE] at h; cases h
    | none =>
      rw [hE] at h
      rcases Nat.lt_or_ge j m with h1 | h1
      · exact lu_none h j h1
      · obtain rfl : j = m := by omega
        exact hE
theorem lu_some {E : Nat → Nat → Option Int} {a : Nat} {e : En} : ∀ {m : Nat}, lu E a m = some e → ∃ j, j < m ∧ e.p = ⟨top a j, j⟩ ∧ E (top a j) j = some e.v ∧ ∀ i, j < i → i < m → E (top a i) i = none
  | 0, h => by cases h
  | m + 1, h => by
    rw [lu] at h
    cases hE : E (top a m) m with
    | some v =>
      rw [hE] at h
      cases h
      exact ⟨m, by omega, rfl, hE, fun i h1 h2 => by omega⟩
    | none =>
      rw [hE] at h
      obtain ⟨j, h1, h2, h3, h4⟩ := lu_some h
      refine ⟨j, by omega, h2, h3, fun i h5 h6 => ?_⟩
      rcases Nat.lt_or_ge i m with h7 | h7
      · exact h4 i h5 h7
      · obtain rfl : i = m := by omega
        exact hE
theorem setE_ne {E : Nat → Nat → Option Int} {p : Pf} {v : Int} {x k : Nat} (h : ¬(x = p.a ∧ k = p.n.toNat)) : setE E p v x k = E x k := by rw [setE, if_neg h]
theorem lu_setA {E : Nat → Nat → Option Int} {a : Nat} {p : Pf} {v : Int} {k : Nat} (hp : p = ⟨top a k, k⟩) : ∀ {m : Nat}, k < m → (∀ j, k < j → j < m → E (top a j) j = none) → lu (setE E p v) a m = some ⟨p, v⟩
  | 0, h, _ => by omega
  | m + 1, h, hn => by
    rw [lu]
    by_cases hk : m = k
    · subst hk
      rw [setE, if_pos (by rw [hp]; simp)]
      simp [hp]
    · rw [setE_ne (by rw [hp]; simp; intro _; exact hk), hn m (by omega) (by omega)]
      exact lu_setA hp (by omega) fun j h1 h2 => hn j h1 (by omega)
theorem lu_setB {E : Nat → Nat → Option Int} {a : Nat} {p : Pf} {v : Int} {k : Nat} (hp : p = ⟨top a k, k⟩) : ∀ {m : Nat}, (m ≤ k ∨ ∃ j, k < j ∧ j < m ∧ E (top a j) j ≠ none) → lu (setE E p v) a m = lu E a m
  | 0, _ => rfl
  | m + 1, h => by
    have hk : m ≠ k := by rcases h with h | ⟨j, h1, h2, _⟩ <;> omega
    rw [lu, lu, setE_ne (by rw [hp]; simp; intro _; exact hk)]
    cases hE : E (top a m) m with
    | some u => rfl
    | none =>
      refine lu_setB hp ?_
      rcases h with h | ⟨j, h1, h2, h3⟩
      · exact .inl (by omega)
      · rcases Nat.lt_or_ge j m with h7 | h7
        · exact .inr ⟨j, h1, h7, h3⟩
        · obtain rfl : j = m := by omega
          exact absurd hE h3
theorem lu_congr {E E' : Nat → Nat → Option Int} {a : Nat} : ∀ {m : Nat}, (∀ j, j < m → E' (top a j) j = E (top a j) j) → lu E' a m = lu E a m
  | 0, _ => rfl
  | m + 1, h => by
    rw [lu, lu, h m (by omega), lu_congr fun j hj => h j (by omega)]
/-- One step of the search for the longest. -/
def bestB (a : Nat) (o : Option En) (x : En) : Bool := x.p.has a && (o.isNone || decide ((o.getD En.zero).p.n ≤ x.p.n))
def bestS (a : Nat) (o : Option En) (x : En) : Option En := if bestB a o x then some x else o
def bestL (a : Nat) (L : List En) : Option En := L.foldl (bestS a) none
theorem look_put {E : Nat → Nat → Option Int} {a : Nat} {x : En} (hv : x.p.valid = true) : lookE (setE E x.p x.v) a = bestS a (lookE E a) x := by
  obtain ⟨v1, v2, v3⟩ := Pf.valid_iff.1 hv
  rw [lookE, lookE, pre_last, pre_last, bestS, bestB, Pf.has, hv, Bool.true_and]
  by_cases hh : top a x.p.n.toNat = x.p.a
  · rw [decide_eq_true hh, Bool.true_and]
    have hp : x.p = ⟨top a x.p.n.toNat, (x.p.n.toNat : Nat)⟩ := pf_eq hh.symm (show x.p.n = ((x.p.n.toNat : Nat) : Int) by omega)
    cases hl : lu E a 33 with
    | none =>
      rw [lu_setA hp (by omega) fun j h1 h2 => lu_none hl j h2]
      rfl
    | some e =>
      obtain ⟨j, h1, h2, h3, h4⟩ := lu_some hl
      have hn : e.p.n = j := by rw [h2]
      simp only [Option.isNone_some, Bool.false_or, Option.getD_some, hn]
      by_cases hjk : (j : Int) ≤ x.p.n
      · rw [decide_eq_true hjk, lu_setA hp (by omega) fun i h5 h6 => h4 i (by omega) h6]
        rfl
      · rw [decide_eq_false hjk, lu_setB hp (.inr ⟨j, by omega, h1, by rw [h3]; exact fun h => nomatch h⟩), hl]
        rfl
  · rw [decide_eq_false hh, Bool.false_and]
    refine lu_congr fun j hj => setE_ne ?_
    rintro ⟨e1, e2⟩
    subst e2
    exact hh e1
theorem look_best {a : Nat} {L : List En} (hok : allOk L = true) : lookE (ofS L).1 a = bestL a L := by
  have key : ∀ (L : List En) (s : St) (o : Option En), allOk L = true → lookE s.1 a = o → lookE (L.foldl putS s).1 a = L.foldl (bestS a) o := by
    intro L
    induction L with
    | nil => intro s o _ h; exact h
    | cons x r ih =>
      intro s o hok h
      unfold allOk at hok
      rw [List.all_cons, Bool.and_eq_true] at hok
      exact ih (putS s x) (bestS a o x) hok.2 (by rw [putS]; simp only; rw [look_put hok.1, h])
  have hz : ∀ m, lu (fun _ _ => none) a m = none := fun m => by
    induction m with
    | zero => rfl
    | succ m ih => rw [lu]; exact ih
  exact key L St.zero none hok (by rw [lookE, pre_last]; exact hz 33)
theorem best_step {a : Nat} {L : List En} {k : Nat} {x : En} (hx : L[k]? = some x) : bestL a (L.take (k + 1)) = bestS a (bestL a (L.take k)) x := by
  unfold bestL
  rw [List.take_add_one, hx, Option.toList_some, List.foldl_append]
  rfl
end Go.Proofs.Ytjpnaofoeeegeaa

/-
  Tables (layer 7), in plain lists: what Check demands; lookups and the trie's lookups; the addresses at which lookups may change.
  Conditions: addresses are below 2^32.
-/
namespace Go.Proofs.Ytjpnaofoeeegeaa
open Go.RowKit

theorem cmp_ge {p q : Pf} : 0 ≤ cmpP p q ↔ ¬pLt p q := by
  unfold cmpP
  split
  · rename_i h; exact ⟨fun h2 => absurd h2 (by decide), fun h2 => absurd h h2⟩
  · rename_i h
    split
    · exact ⟨fun _ => h, fun _ => by decide⟩
    · exact ⟨fun _ => h, fun _ => by decide⟩
/-- What a table is. -/
structure Tb (L : List En) : Prop where
  ok : ∀ e ∈ L, e.p.valid = true ∧ -1 ≤ e.v
  srt : Srt L
theorem chkF_iff : ∀ (L : List En) (pr : Option Pf), chkF pr L = 0 ↔ (∀ e ∈ L, e.p.valid = true ∧ -1 ≤ e.v) ∧ (∀ q, pr = some q → ∀ e ∈ L, pLt q e.p) ∧ Srt L
  | [], pr => by simp [chkF]
  | x :: l, pr => by
    have he : chkF pr (x :: l) = if x.p.valid = false then 1 else if x.v < -1 then 5 else if (match pr with | none => false | some q => decide (0 ≤ cmpP q x.p)) = true then 16 else chkF (some x.p) l := by cases pr <;> rfl
    rw [he]
    clear he
    by_cases hv : x.p.valid = true
    · rw [if_neg (by rw [hv]; decide)]
      by_cases hx : x.v < -1
      · rw [if_pos hx]
        exact ⟨fun h => absurd h (by decide), fun h => absurd (h.1 x (List.mem_cons_self ..)).2 (by omega)⟩
      · rw [if_neg hx]
        by_cases ho : (match pr with | none => false | some q => decide (0 ≤ cmpP q x.p)) = true
        · rw [if_pos ho]
          refine ⟨fun h => absurd h (by decide), fun h => ?_⟩
          cases pr with
          | none => cases ho
          | some q => exact absurd (h.2.1 q rfl x (List.mem_cons_self ..)) (cmp_ge.1 (of_decide_eq_true ho))
        · rw [if_neg ho, chkF_iff l (some x.p)]
          constructor
          · rintro ⟨h1, h2, h3⟩
            refine ⟨fun e he => ?_, fun q hq e he => ?_, List.pairwise_cons.2 ⟨h2 x.p rfl, h3⟩⟩
            · rcases List.mem_cons.1 he with rfl | he
              · exact ⟨hv, by omega⟩
              · exact h1 e he
            · subst hq
              have hqx : pLt q x.p := Classical.byContradiction fun h => ho (decide_eq_true (cmp_ge.2 h))
              rcases List.mem_cons.1 he with rfl | he
              · exact hqx
              · exact pLt_trans hqx (h2 x.p rfl e he)
          · rintro ⟨h1, h2, h3⟩
            obtain ⟨h4, h5⟩ := List.pairwise_cons.1 h3
            exact ⟨fun e he => h1 e (List.mem_cons_of_mem _ he), fun q hq e he => by cases hq; exact h4 e he, h5⟩
    · rw [if_pos (by simpa using hv)]
      exact ⟨fun h => absurd h (by decide), fun h => absurd (h.1 x (List.mem_cons_self ..)).1 hv⟩
theorem chk_iff {L : List En} : chk L = 0 ↔ L.length ≤ 2000 ∧ Tb L := by
  unfold chk
  split
  · exact ⟨fun h => absurd h (by decide), fun h => absurd h.1 (by omega)⟩
  · rw [chkF_iff]
    exact ⟨fun h => ⟨by omega, h.1, h.2.2⟩, fun h => ⟨h.2.ok, (fun q hq => nomatch hq), h.2.srt⟩⟩
theorem Tb.allOk {L : List En} (h : Tb L) : allOk L = true := List.all_eq_true.2 fun e he => (h.ok e he).1
theorem Tb.sub {L M : List En} (h : Tb L) (hs : List.Sublist M L) : Tb M := ⟨fun e he => h.ok e (hs.subset he), h.srt.sublist hs⟩
theorem Tb.nil : Tb [] := ⟨(fun _ he => nomatch he), List.Pairwise.nil⟩

/-! ### Which addresses a prefix has -/
theorem has_iff {p : Pf} {a : Nat} (hv : p.valid = true) : p.has a = true ↔ p.a ≤ a ∧ a ≤ p.last := by
  obtain ⟨v1, v2, v3⟩ := Pf.valid_iff.1 hv
  rw [Pf.has, hv, Bool.true_and, decide_eq_true_eq, Pf.last, if_pos hv]
  have hp : 0 < 2 ^ (32 - p.n.toNat) := Nat.two_pow_pos _
  unfold top at v3 ⊢
  generalize 2 ^ (32 - p.n.toNat) = g at v3 hp ⊢
  constructor
  · intro h
    have := Nat.div_mul_le_self a g
    have h2 := Nat.lt_div_mul_add (a := a) hp
    omega
  · rintro ⟨h1, h2⟩
    have h3 : p.a / g ≤ a / g := Nat.div_le_div_right h1
    have h4 : a / g ≤ p.a / g := by
      refine Nat.le_of_lt_succ ((Nat.div_lt_iff_lt_mul hp).2 ?_)
      rw [Nat.succ_mul, v3]; omega
    rw [show a / g = p.a / g by omega, v3]
theorem has_valid {p : Pf} {a : Nat} (h : p.has a = true) : p.valid = true := by
  rw [Pf.has, Bool.and_eq_true] at h; exact h.1
theorem has_same {p q : Pf} {a : Nat} (hp : p.has a = true) (hq : q.has a = true) (hn : p.n = q.n) : p = q := by
  rw [Pf.has, Bool.and_eq_true, decide_eq_true_eq] at hp hq
  exact pf_eq (by rw [← hp.2, ← hq.2, hn]) hn

/-! ### The trie's lookup -/
theorem best_snoc (a : Nat) (L : List En) (x : En) : bestL a (L ++ [x]) = bestS a (bestL a L) x := by unfold bestL; rw [List.foldl_append]; rfl
theorem best_in {a : Nat} {L : List En} {e : En} : bestL a L = some e → e ∈ L ∧ e.p.has a = true := by
  refine en_ind (P := fun L => bestL a L = some e → e ∈ L ∧ e.p.has a = true) (fun h => nomatch h) (fun L x ih h => ?_) L
  rw [best_snoc, bestS] at h
  split at h
  · rename_i hb
    cases h
    rw [bestB, Bool.and_eq_true] at hb
    exact ⟨List.mem_append.2 (.inr (List.mem_singleton.2 rfl)), hb.1⟩
  · obtain ⟨h1, h2⟩ := ih h
    exact ⟨List.mem_append.2 (.inl h1), h2⟩
def enS : Option En → Int × Int
  | none => (-1, -1)
  | some e => (e.v, e.p.n)
theorem lk_best (a : Nat) (L : List En) : Tb L → L.foldl (lkS a) (-1, -1) = enS (bestL a L) := by
  refine en_ind (P := fun L => Tb L → L.foldl (lkS a) (-1, -1) = enS (bestL a L)) (fun _ => rfl) (fun L x ih h => ?_) L
  rw [List.foldl_append, ih (h.sub (List.sublist_append_left ..)), best_snoc]
  have hx := h.ok x (List.mem_append.2 (.inr (List.mem_singleton.2 rfl)))
  obtain ⟨v1, v2, v3⟩ := Pf.valid_iff.1 hx.1
  show lkS a (enS (bestL a L)) x = enS (bestS a (bestL a L) x)
  rw [lkS, bestS, bestB]
  cases hh : x.p.has a with
  | false => simp
  | true =>
    cases hb : bestL a L with
    | none =>
      have hd : decide ((enS none).2 < x.p.n) = true := decide_eq_true (show (-1 : Int) < x.p.n by omega)
      rw [hd]; rfl
    | some e =>
      obtain ⟨h1, h2⟩ := best_in hb
      have hne : e.p.n ≠ x.p.n := fun e1 => by
        have e2 := has_same h2 hh e1
        have := (List.pairwise_append.1 h.srt).2.2 e h1 x (List.mem_singleton.2 rfl)
        rw [e2] at this
        exact pLt_irrefl _ this
      by_cases hlt : e.p.n < x.p.n
      · have hd : decide ((enS (some e)).2 < x.p.n) = true := decide_eq_true hlt
        have hd2 : decide (((some e).getD En.zero).p.n ≤ x.p.n) = true := decide_eq_true (Int.le_of_lt hlt)
        rw [hd, hd2]; rfl
      · have hd : decide ((enS (some e)).2 < x.p.n) = false := decide_eq_false hlt
        have hd2 : decide (((some e).getD En.zero).p.n ≤ x.p.n) = false := decide_eq_false (show ¬e.p.n ≤ x.p.n by omega)
        rw [hd, hd2]; rfl
/-- The lookup as the best entry's value. -/
theorem lk_eq {L : List En} (a : Nat) (h : Tb L) : lk L a = match bestL a L with | none => -1 | some e => e.v := by
  rw [lk, lk_best a L h]; cases bestL a L <;> rfl

/-! ### Lookups between the bounds -/
theorem fold_congr {α β : Type} {f g : α → β → α} : ∀ (L : List β) (s : α), (∀ s, ∀ x ∈ L, f s x = g s x) → L.foldl f s = L.foldl g s
  | [], _, _ => rfl
  | x :: l, s, h => by
    rw [List.foldl_cons, List.foldl_cons, h s x (List.mem_cons_self ..)]
    exact fold_congr l _ fun s y hy => h s y (List.mem_cons_of_mem _ hy)
theorem words_mem {L : List En} {x : Int} : x ∈ words L ↔ ∃ e ∈ L, x = e.p.a ∨ x = (e.p.last : Int) + 1 := by
  unfold words
  rw [List.mem_flatMap]
  simp
/-- Between two bounds a lookup does not change. -/
theorem lk_const {L : List En} (hv : ∀ e ∈ L, e.p.valid = true) {x d : Nat} (hd : d ≤ x) (h : ∀ b ∈ words L, b ≤ (x : Int) → b ≤ (d : Int)) : lk L x = lk L d := by
  unfold lk
  congr 1
  refine fold_congr L _ fun s e he => ?_
  have hve := hv e he
  have h1 : e.p.has x = e.p.has d := by
    rw [Bool.eq_iff_iff, has_iff hve, has_iff hve]
    have h2 := h e.p.a (words_mem.2 ⟨e, he, .inl rfl⟩)
    have h3 := h ((e.p.last : Int) + 1) (words_mem.2 ⟨e, he, .inr rfl⟩)
    omega
  rw [lkS, lkS, h1]

/-! ### The list of bounds -/
def insW (x : Int) : List Int → List Int
  | [] => [x]
  | y :: r => if x < y then x :: y :: r else if x = y then y :: r else y :: insW x r
theorem insW_mem (x : Int) : ∀ (L : List Int) (z : Int), z ∈ insW x L ↔ z = x ∨ z ∈ L
  | [], z => by simp [insW]
  | y :: r, z => by
    rw [insW]
    split
    · simp
    · split
      · rename_i h; subst h; simp
      · rw [List.mem_cons, insW_mem x r z, List.mem_cons]
        exact ⟨fun h => h.elim (fun h => .inr (.inl h)) fun h => h.elim .inl fun h => .inr (.inr h), fun h => h.elim (fun h => .inr (.inl h)) fun h => h.elim .inl fun h => .inr (.inr h)⟩
theorem insW_asc (x : Int) : ∀ (L : List Int), L.Pairwise (· < ·) → (insW x L).Pairwise (· < ·)
  | [], _ => List.pairwise_singleton ..
  | y :: r, h => by
    obtain ⟨h1, h2⟩ := List.pairwise_cons.1 h
    rw [insW]
    split
    · rename_i hx
      exact List.pairwise_cons.2 ⟨fun z hz => (List.mem_cons.1 hz).elim (fun e => e ▸ hx) fun hz => by have := h1 z hz; omega, h⟩
    · split
      · exact h
      · refine List.pairwise_cons.2 ⟨fun z hz => ?_, insW_asc x r h2⟩
        rcases (insW_mem x r z).1 hz with e | hz
        · omega
        · exact h1 z hz
theorem asc_eq : ∀ {A B : List Int}, A.Pairwise (· < ·) → B.Pairwise (· < ·) → (∀ e, e ∈ A ↔ e ∈ B) → A = B
  | [], [], _, _, _ => rfl
  | [], b :: B, _, _, h => by have := (h b).2 (List.mem_cons_self ..); cases this
  | a :: A, [], _, _, h => by have := (h a).1 (List.mem_cons_self ..); cases this
  | a :: A, b :: B, hA, hB, h => by
    obtain ⟨a1, a2⟩ := List.pairwise_cons.1 hA
    obtain ⟨b1, b2⟩ := List.pairwise_cons.1 hB
    have hab : a = b := by
      rcases List.mem_cons.1 ((h a).1 (List.mem_cons_self ..)) with e | e
      · exact e
      · rcases List.mem_cons.1 ((h b).2 (List.mem_cons_self ..)) with e2 | e2
        · exact e2.symm
        · have := b1 a e; have := a1 b e2; omega
    subst hab
    congr 1
    refine asc_eq a2 b2 fun e => ⟨fun he => ?_, fun he => ?_⟩
    · rcases List.mem_cons.1 ((h e).1 (List.mem_cons_of_mem _ he)) with e2 | e2
      · subst e2; exact absurd (a1 _ he) (by omega)
      · exact e2
    · rcases List.mem_cons.1 ((h e).2 (List.mem_cons_of_mem _ he)) with e2 | e2
      · subst e2; exact absurd (b1 _ he) (by omega)
      · exact e2
/-- The words of a list and 0, ascending, without 2^32. -/
def bndW (W : List Int) : List Int := (W.foldr insW [0]).filter fun x => decide (x ≠ 4294967296)
theorem bndW_asc (W : List Int) : (bndW W).Pairwise (· < ·) := by
  refine List.Pairwise.filter _ ?_
  induction W with
  | nil => exact List.pairwise_singleton ..
  | cons x l ih => exact insW_asc x _ ih
theorem bndW_mem (W : List Int) (x : Int) : x ∈ bndW W ↔ (x = 0 ∨ x ∈ W) ∧ x ≠ 4294967296 := by
  rw [bndW, List.mem_filter, decide_eq_true_eq]
  refine and_congr ?_ Iff.rfl
  induction W with
  | nil => simp
  | cons y l ih =>
    rw [List.foldr_cons, insW_mem, ih, List.mem_cons]
    exact ⟨fun h => h.elim (fun h => .inr (.inl h)) fun h => h.elim .inl fun h => .inr (.inr h), fun h => h.elim (fun h => .inr (.inl h)) fun h => h.elim .inl fun h => .inr (.inr h)⟩
theorem bndW_eq {W D : List Int} (hD : D.Pairwise (· < ·)) (hm : ∀ x, x ∈ D ↔ (x = 0 ∨ x ∈ W) ∧ x ≠ 4294967296) : D = bndW W :=
  asc_eq hD (bndW_asc W) fun x => by rw [hm, bndW_mem]
theorem words_range {L : List En} (ha : ∀ e ∈ L, e.p.a < 4294967296) {x : Int} (hx : x ∈ words L) : 0 ≤ x ∧ x ≤ 4294967296 := by
  obtain ⟨e, he, h⟩ := words_mem.1 hx
  have := last_lt' e.p (ha e he)
  have := ha e he
  omega
theorem bndW_range {W : List Int} (hW : ∀ x ∈ W, 0 ≤ x ∧ x ≤ 4294967296) {x : Int} (hx : x ∈ bndW W) : 0 ≤ x ∧ x < 4294967296 := by
  obtain ⟨h1, h2⟩ := (bndW_mem W x).1 hx
  rcases h1 with h | h
  · omega
  · have := hW x h; omega
/-- The bound at or before an address. -/
theorem bound_of {W : List Int} {x : Nat} (hx : x < 4294967296) : ∃ d : Nat, (d : Int) ∈ bndW W ∧ d ≤ x ∧ ∀ b ∈ W, b ≤ (x : Int) → b ≤ (d : Int) := by
  have key : ∀ n : Nat, ∀ x : Nat, x ≤ n → x < 4294967296 → ∃ d : Nat, (d : Int) ∈ bndW W ∧ d ≤ x ∧ ∀ b ∈ W, b ≤ (x : Int) → b ≤ (d : Int) := by
    intro n
    induction n with
    | zero =>
      intro x h hx
      obtain rfl : x = 0 := by omega
      exact ⟨0, (bndW_mem W _).2 ⟨.inl rfl, by decide⟩, Nat.le_refl _, fun b _ h => h⟩
    | succ n ih =>
      intro x h hx
      by_cases hm : (x : Int) ∈ bndW W
      · exact ⟨x, hm, Nat.le_refl _, fun b _ h => h⟩
      · have hx0 : x ≠ 0 := fun e => hm ((bndW_mem W _).2 ⟨.inl (by omega), by omega⟩)
        obtain ⟨d, h1, h2, h3⟩ := ih (x - 1) (by omega) (by omega)
        refine ⟨d, h1, by omega, fun b hb hbx => h3 b hb ?_⟩
        have : b ≠ x := fun e => hm ((bndW_mem W _).2 ⟨.inr (e ▸ hb), by omega⟩)
        omega
  exact key x x (Nat.le_refl _) hx
/-! ### Differ -/
/-- Where the lookups of two tables first differ. -/
def difO (A B : List En) : Option Int := (bndW (words A ++ words B)).find? fun n => decide (lk A n.toNat ≠ lk B n.toNat)
/-- What Differ returns. -/
def difT (A B : List En) : Option Int := if chk A = 0 ∧ chk B = 0 then difO A B else none
theorem dif_none {A B : List En} (hA : Tb A) (hB : Tb B) (ha : ∀ e ∈ A, e.p.a < 4294967296) (hb : ∀ e ∈ B, e.p.a < 4294967296) : difO A B = none ↔ ∀ x, x < 4294967296 → lk A x = lk B x := by
  have hvA : ∀ e ∈ A, e.p.valid = true := fun e he => (hA.ok e he).1
  have hvB : ∀ e ∈ B, e.p.valid = true := fun e he => (hB.ok e he).1
  have hW : ∀ x ∈ words A ++ words B, 0 ≤ x ∧ x ≤ 4294967296 := fun x hx => (List.mem_append.1 hx).elim (words_range ha) (words_range hb)
  rw [difO, List.find?_eq_none]
  constructor
  · intro h x hx
    obtain ⟨d, h1, h2, h3⟩ := bound_of hx
    rw [lk_const hvA h2 fun b hb' => h3 b (List.mem_append.2 (.inl hb')), lk_const hvB h2 fun b hb' => h3 b (List.mem_append.2 (.inr hb'))]
    have := h _ h1
    simpa using this
  · intro h x hx
    have := bndW_range hW hx
    simpa using h x.toNat (by omega)
theorem dif_some {A B : List En} {n : Int} (hA : Tb A) (hB : Tb B) (ha : ∀ e ∈ A, e.p.a < 4294967296) (hb : ∀ e ∈ B, e.p.a < 4294967296) (h : difO A B = some n) :
    0 ≤ n ∧ n < 4294967296 ∧ lk A n.toNat ≠ lk B n.toNat ∧ ∀ x : Nat, (x : Int) < n → lk A x = lk B x := by
  have hvA : ∀ e ∈ A, e.p.valid = true := fun e he => (hA.ok e he).1
  have hvB : ∀ e ∈ B, e.p.valid = true := fun e he => (hB.ok e he).1
  have hW : ∀ x ∈ words A ++ words B, 0 ≤ x ∧ x ≤ 4294967296 := fun x hx => (List.mem_append.1 hx).elim (words_range ha) (words_range hb)
  obtain ⟨h1, c1, c2, h2, h3⟩ := List.find?_eq_some_iff_append.1 h
  have hmem : n ∈ bndW (words A ++ words B) := by rw [h2]; simp
  have hr := bndW_range hW hmem
  refine ⟨hr.1, hr.2, by simpa using h1, fun x hx => ?_⟩
  obtain ⟨d, q1, q2, q3⟩ := bound_of (x := x) (by omega)
  rw [lk_const hvA q2 fun b hb' => q3 b (List.mem_append.2 (.inl hb')), lk_const hvB q2 fun b hb' => q3 b (List.mem_append.2 (.inr hb'))]
  have hasc := bndW_asc (words A ++ words B)
  rw [h2] at hasc q1
  rcases List.mem_append.1 q1 with q | q
  · have := h3 _ q
    simpa using this
  · exfalso
    have hp := (List.pairwise_append.1 hasc).2.1
    rcases List.mem_cons.1 q with e | q
    · omega
    · have := (List.pairwise_cons.1 hp).1 _ q; omega
end Go.Proofs.Ytjpnaofoeeegeaa

/-
  Tables (layer 7): Differ and Same, of the program and of the reference.
  Conditions: the lists are not too long for a machine.
-/
namespace Go.Proofs.Ytjpnaofoeeegeaa
open Go.RowKit

theorem lookO_eq {L : List En} (a : Nat) (h : Tb L) : lookO (ofS L).1 a = lk L a := by
  rw [lookO, look_best h.allOk, lk_eq a h]
  cases bestL a L <;> rfl
def difV : Option Int → Value
  | none => .tuple #[.int .u32 0, .bool false]
  | some n => .tuple #[.int .u32 n, .bool true]
theorem difT_none {A B : List En} (h : ¬chk A = 0 ∨ ¬chk B = 0) : difT A B = none := by
  rw [difT, if_neg (fun h2 => h.elim (fun h => h h2.1) (fun h => h h2.2))]
theorem find_step {D : List Int} {k : Nat} {n : Int} (p : Int → Bool) (h : D[k]? = some n) : (D.drop k).find? p = if p n = true then some n else (D.drop (k + 1)).find? p := by
  obtain ⟨hk, e⟩ := List.getElem?_eq_some_iff.1 h
  rw [List.drop_eq_getElem_cons hk, List.find?_cons, e]
  cases p n <;> rfl
theorem asc_idx {D : List Int} (h : D.Pairwise (· < ·)) (h0 : ∀ x ∈ D, 0 ≤ x) : ∀ (i : Nat) (hi : i < D.length), (i : Int) ≤ D[i]
  | 0, hi => by have := h0 _ (List.getElem_mem hi); omega
  | i + 1, hi => by
    have h1 := asc_idx h h0 i (by omega)
    have h2 := List.pairwise_iff_getElem.1 h i (i + 1) (by omega) hi (by omega)
    omega
theorem asc_len {D : List Int} (h : D.Pairwise (· < ·)) (h0 : ∀ n ∈ D, 0 ≤ n ∧ n < 4294967296) : D.length ≤ 4294967296 := by
  rcases Nat.eq_zero_or_pos D.length with c | c
  · omega
  · have h1 := asc_idx h (fun x hx => (h0 x hx).1) (D.length - 1) (by omega)
    have h2 := (h0 _ (List.getElem_mem (show D.length - 1 < D.length by omega))).2
    omega
set_option maxHeartbeats 2000000 in
theorem differR_v (ao bo : Option Addr) (L M : List En) (c d : Nat) (w : World) (hL : Ens w ao L) (hLa : ∀ e ∈ L, e.p.a < 4294967296) (hn : L.length ≤ 1000000) (hz : ao = none → c = 0) (hM : Ens w bo M) (hMa : ∀ e ∈ M, e.p.a < 4294967296) (hn2 : M.length ≤ 1000000) (hz2 : bo = none → d = 0) :
    Calls Try.prog 55 #[.slice ao L.length c, .slice bo M.length d] w (Ret (difV (difT L M)) w) := by
  have one : ∀ (K : List En), (∀ u ∈ K.map En.cells, u.length = 3) ∧ ∀ u ∈ K.map En.cells, u.all (fun u => u.oneCell') = true := fun K => ⟨fun u hu => by
    obtain ⟨x, _, rfl⟩ := List.mem_map.1 hu
    rfl, fun u hu => by
    obtain ⟨x, _, rfl⟩ := List.mem_map.1 hu
    rfl⟩
  refine V_enter (vs := [_, _]) Try.func55 rfl Try.ntmps55 (Nat.le_of_ble_eq_true rfl) ?_
  repeat (first | refine Vx ?_ | (apply Ops_q; (case hon => exact Va); (case hd => rfl); (case hq => exact YlA)) | refine Vr ?_ | refine Vt ?_ | refine Vf ?_ | refine Vm ?_ | refine Ve ?_ | refine Vo ?_ | refine Vz ?_ | refine Vn ?_)
  (apply Ops_q; (case hon => (exact Va)); (case hd => rfl); (case hq => exact Yl_call rfl (fun w_ e_ => checkR_v ao L c w_ (hL.ext e_) hLa hn)))
  repeat (first | refine Vx ?_ | (apply Ops_q; (case hon => exact Va); (case hd => rfl); (case hq => exact YlA)) | refine Vr ?_ | refine Vt ?_ | refine Vf ?_ | refine Vm ?_ | refine Ve ?_ | refine Vo ?_ | refine Vz ?_ | refine Vn ?_)
  refine Ops_split rfl rfl (fun h1 => ?_) (fun h1 => ?_)
  · have h0 : ¬chk L = 0 := by simpa using h1
    repeat (first | refine Vx ?_ | (apply Ops_q; (case hon => exact Va); (case hd => rfl); (case hq => exact YlA)) | refine Vr ?_ | refine Vt ?_ | refine Vf ?_ | refine Vm ?_ | refine Ve ?_ | refine Vo ?_ | refine Vz ?_ | refine Vn ?_)
    refine ret2 (by first | exact .inl rfl | exact .inr rfl) rfl rfl rfl ?_
    exact Ret_mk (by rw [difT_none (.inl h0)]; rfl) (Ext.refl _)
  have hl0 : chk L = 0 := by simpa using h1
  clear h1
  repeat (first | refine Vx ?_ | (apply Ops_q; (case hon => exact Va); (case hd => rfl); (case hq => exact YlA)) | refine Vr ?_ | refine Vt ?_ | refine Vf ?_ | refine Vm ?_ | refine Ve ?_ | refine Vo ?_ | refine Vz ?_ | refine Vn ?_)
  (apply Ops_q; (case hon => (exact Va)); (case hd => rfl); (case hq => exact Yl_call rfl (fun w_ e_ => checkR_v bo M d w_ (hM.ext e_) hMa hn2)))
  repeat (first | refine Vx ?_ | (apply Ops_q; (case hon => exact Va); (case hd => rfl); (case hq => exact YlA)) | refine Vr ?_ | refine Vt ?_ | refine Vf ?_ | refine Vm ?_ | refine Ve ?_ | refine Vo ?_ | refine Vz ?_ | refine Vn ?_)
  refine V_cond rfl (fun h1 => ?_) (fun h1 => ?_)
  · have h0 : ¬chk M = 0 := by simpa using h1
    repeat (first | refine Vx ?_ | (apply Ops_q; (case hon => exact Va); (case hd => rfl); (case hq => exact YlA)) | refine Vr ?_ | refine Vt ?_ | refine Vf ?_ | refine Vm ?_ | refine Ve ?_ | refine Vo ?_ | refine Vz ?_ | refine Vn ?_)
    refine ret2 (by first | exact .inl rfl | exact .inr rfl) rfl rfl rfl ?_
    exact Ret_mk (by rw [difT_none (.inr h0)]; rfl) (Ext.refl _)
  have hm0 : chk M = 0 := by simpa using h1
  clear h1
  have hTL := (chk_iff.1 hl0).2
  have hTM := (chk_iff.1 hm0).2
  have hdT : difT L M = difO L M := by rw [difT, if_pos ⟨hl0, hm0⟩]
  rw [hdT]
  repeat (first | refine Vx ?_ | (apply Ops_q; (case hon => exact Va); (case hd => rfl); (case hq => exact YlA)) | refine Vr ?_ | refine Vt ?_ | refine Vf ?_ | refine Vm ?_ | refine Ve ?_ | refine Vo ?_ | refine Vz ?_ | refine Vn ?_)
  have o0 : Own w w.heap.size 42 3 (.slice none 0 0) [] := Own.nil
  refine Ops_appendA (M := L.map En.cells) (by exact Va) rfl rfl rfl rfl (List.length_map ..).symm o0 hL hz (one L).1 (one L).2 (by rw [List.length_map, List.length_nil]; omega) rfl (Nat.le_refl _) ?_
  intro v1 w1 o1 g1 d1
  have x1 : Ext w w1 := Mod.ext_of (Ext.refl w) ((Mod.of_ext (S := fun _ => False) (Ext.refl w)).grow g1 (fun b hb => by cases hb)) (fun c hc => hc.elim)
  rw [List.nil_append] at o1
  repeat (first | refine Vx ?_ | (apply Ops_q; (case hon => exact Va); (case hd => rfl); (case hq => exact YlA)) | refine Vr ?_ | refine Vt ?_ | refine Vf ?_ | refine Vm ?_ | refine Ve ?_ | refine Vo ?_ | refine Vz ?_ | refine Vn ?_)
  refine Ops_appendA (M := M.map En.cells) (by exact Va) rfl rfl rfl rfl (List.length_map ..).symm o1 (hM.ext x1) hz2 (one M).1 (one M).2 (by rw [List.length_map, List.length_map]; omega) rfl x1.size ?_
  intro v2 w2 o2 g2 d2
  have x2 : Ext w w2 := Mod.ext_of x1 ((Mod.of_ext (S := fun c => v1.ownBlock = some c) (Ext.refl w1)).grow g2 (fun b hb => .inl hb)) (fun c hc => o1.ge hc)
  rw [← List.map_append] at o2
  obtain ⟨ao2, c2, rfl, hA2⟩ := o2.slice
  rw [List.length_map]
  have hE2 : Ens w2 ao2 (L ++ M) := hA2
  have hEa : ∀ e ∈ L ++ M, e.p.a < 4294967296 := fun e he => (List.mem_append.1 he).elim (hLa e) (hMa e)
  have hEv : ∀ e ∈ L ++ M, e.p.valid = true := fun e he => (List.mem_append.1 he).elim (fun h => (hTL.ok e h).1) (fun h => (hTM.ok e h).1)
  have hEn : (L ++ M).length ≤ 2000000 := by rw [List.length_append]; omega
  have hw : words (L ++ M) = words L ++ words M := by unfold words; rw [List.flatMap_append]
  clear g1 g2 d1 d2 o1 o2 hA2 x1 o0 one
  repeat (first | refine Vx ?_ | (apply Ops_q; (case hon => exact Va); (case hd => rfl); (case hq => exact YlA)) | refine Vr ?_ | refine Vt ?_ | refine Vf ?_ | refine Vm ?_ | refine Ve ?_ | refine Vo ?_ | refine Vz ?_ | refine Vn ?_)
  (refine Ops_callR (by exact Va) rfl rfl (fun w_ e_ => boundsR_v ao2 (L ++ M) c2 w_ (hE2.ext e_) hEa hEv hEn) ?_; intro v w4 w0_ e0_ e1_ r_v; have e_w4 := e0_.trans e1_; have b_v := e0_.size; clear e0_ e1_)
  obtain ⟨D, hOD, hDne, hDa, hDl0, hDm⟩ := r_v
  obtain ⟨ag, cap, rfl, hAr⟩ := hOD.slice
  rw [List.length_map]
  have hDe : D = bndW (words L ++ words M) := bndW_eq hDa fun x => by rw [hDm, hw]
  have x4 := x2.trans e_w4
  clear hE2 hEa hEv hEn hw x2 e_w4 b_v hDm hDne hDl0 hOD
  have hdO : difO L M = (D.drop 0).find? fun n => decide (lk L n.toNat ≠ lk M n.toNat) := by rw [difO, ← hDe]; rfl
  rw [hdO]
  have hrg : ∀ n ∈ D, 0 ≤ n ∧ n < 4294967296 := fun n hn => by
    rw [hDe] at hn
    exact bndW_range (fun x hx => (List.mem_append.1 hx).elim (words_range hLa) (words_range hMa)) hn
  have hDl : D.length ≤ 4294967296 := asc_len hDa hrg
  clear hdO hdT hDa
  generalize hp : (fun n : Int => decide (lk L n.toNat ≠ lk M n.toNat)) = p
  repeat (first | refine Vx ?_ | (apply Ops_q; (case hon => exact Va); (case hd => rfl); (case hq => exact YlA)) | refine Vr ?_ | refine Vt ?_ | refine Vf ?_ | refine Vm ?_ | refine Ve ?_ | refine Vo ?_ | refine Vz ?_ | refine Vn ?_)
  refine V_loop (fun k : Nat => [(26, .int .i64 k), (25, .int .i64 D.length), (24, .slice ag D.length cap), (0, .slice ao L.length c), (1, .slice bo M.length d)])
    (fun k w' => Ext w4 w' ∧ k ≤ D.length ∧ (D.drop 0).find? p = (D.drop k).find? p) (fun k => D.length - k) 0 (by repeat (first | exact trivial | refine ⟨rfl, ?_⟩)) ⟨Ext.refl _, Nat.zero_le _, rfl⟩ ?_
  rintro k w5 ⟨x5, hk, hf⟩
  have x6 := x4.trans x5
  repeat (first | refine Vx ?_ | (apply Ops_q; (case hon => exact Va); (case hd => rfl); (case hq => exact YlA)) | refine Vr ?_ | refine Vt ?_ | refine Vf ?_ | refine Vm ?_ | refine Ve ?_ | refine Vo ?_ | refine Vz ?_ | refine Vn ?_)
  refine V_cond rfl (fun hg => ?_) (fun hg => ?_)
  · replace hg := of_decide_eq_true hg
    have hkl : k < D.length := by omega
    obtain ⟨n, hnk⟩ : ∃ n, D[k]? = some n := ⟨_, List.getElem?_eq_getElem hkl⟩
    obtain ⟨ad, rfl, hc0⟩ := (hAr.ext x5) k (uc n) (by rw [List.getElem?_map, hnk]; rfl)
    obtain ⟨n0, n1⟩ := hrg n (List.mem_of_getElem? hnk)
    rw [find_step p hnk] at hf
    obtain ⟨a, rfl⟩ : ∃ a : Nat, n = (a : Int) := ⟨n.toNat, by omega⟩
    have ha : a < 4294967296 := by omega
    have hin : InK .u32 (a : Int) := by simp only [InK]; omega
    have hcell : w5.cell? (ad.add (k * 1)) = some (.int .u64 (a : Int)) := by
      have := hc0 0 _ rfl
      rw [add_add, Nat.add_zero] at this; exact this
    clear n0 n1
    repeat (first | refine Vx ?_ | (apply Ops_q; (case hon => exact Va); (case hd => rfl); (case hq => exact YlA)) | refine Vr ?_ | refine Vt ?_ | refine Vf ?_ | refine Vm ?_ | refine Ve ?_ | refine Vo ?_ | refine Vz ?_ | refine Vn ?_)
    (apply Ops_q; (case hon => (exact Va)); (case hd => rfl); (case hq => exact Yl_indexS (j := k) rfl rfl (by omega)))
    repeat (first | refine Vx ?_ | (apply Ops_q; (case hon => exact Va); (case hd => rfl); (case hq => exact YlA)) | refine Vr ?_ | refine Vt ?_ | refine Vf ?_ | refine Vm ?_ | refine Ve ?_ | refine Vo ?_ | refine Vz ?_ | refine Vn ?_)
    (apply Ops_q; (case hon => (exact Va)); (case hd => rfl); (case hq => exact Yl_call rfl (fun w_ e_ => lookIn_v ao L c a w_ ((hL.ext x6).ext e_) hLa hn ha)))
    repeat (first | refine Vx ?_ | (apply Ops_q; (case hon => exact Va); (case hd => rfl); (case hq => exact YlA)) | refine Vr ?_ | refine Vt ?_ | refine Vf ?_ | refine Vm ?_ | refine Ve ?_ | refine Vo ?_ | refine Vz ?_ | refine Vn ?_)
    (apply Ops_q; (case hon => (exact Va)); (case hd => rfl); (case hq => exact Yl_call rfl (fun w_ e_ => lookIn_v bo M d a w_ ((hM.ext x6).ext e_) hMa hn2 ha)))
    have hpa : p (a : Int) = decide (lk L a ≠ lk M a) := by rw [← hp]; rfl
    repeat (first | refine Vx ?_ | (apply Ops_q; (case hon => exact Va); (case hd => rfl); (case hq => exact YlA)) | refine Vr ?_ | refine Vt ?_ | refine Vf ?_ | refine Vm ?_ | refine Ve ?_ | refine Vo ?_ | refine Vz ?_ | refine Vn ?_)
    refine V_cond rfl (fun hc => ?_) (fun hc => ?_)
    · have hne : lk L a ≠ lk M a := by simpa using hc
      rw [if_pos (hpa.trans (decide_eq_true hne))] at hf
      repeat (first | refine Vx ?_ | (apply Ops_q; (case hon => exact Va); (case hd => rfl); (case hq => exact YlA)) | refine Vr ?_ | refine Vt ?_ | refine Vf ?_ | refine Vm ?_ | refine Ve ?_ | refine Vo ?_ | refine Vz ?_ | refine Vn ?_)
      refine ret2 (by first | exact .inl rfl | exact .inr rfl) rfl rfl rfl ?_
      exact Ret_mk (by rw [hf]; rfl) x6
    · have he : lk L a = lk M a := by simpa using hc
      rw [if_neg (by rw [hpa, decide_eq_false (fun h => h he)]; decide)] at hf
      repeat (first | refine Vx ?_ | (apply Ops_q; (case hon => exact Va); (case hd => rfl); (case hq => exact YlA)) | refine Vr ?_ | refine Vt ?_ | refine Vf ?_ | refine Vm ?_ | refine Ve ?_ | refine Vo ?_ | refine Vz ?_ | refine Vn ?_)
      exact ⟨k + 1, (by repeat (first | exact trivial | refine ⟨rfl, ?_⟩)), ⟨x5, hkl, hf⟩, by omega⟩
  · replace hg := of_decide_eq_false hg
    obtain rfl : k = D.length := by omega
    rw [List.drop_length] at hf
    repeat (first | refine Vx ?_ | (apply Ops_q; (case hon => exact Va); (case hd => rfl); (case hq => exact YlA)) | refine Vr ?_ | refine Vt ?_ | refine Vf ?_ | refine Vm ?_ | refine Ve ?_ | refine Vo ?_ | refine Vz ?_ | refine Vn ?_)
    refine ret2 (by first | exact .inl rfl | exact .inr rfl) rfl rfl rfl ?_
    exact Ret_mk (by rw [hf]; rfl) x6
/-- What Same returns. -/
def samT (A B : List En) : Bool := decide (chk A = 0 ∧ chk B = 0 ∧ difO A B = none)
theorem dif_cases (o : Option Int) : (∃ z b, difV o = .tuple #[.int .u32 z, .bool b] ∧ b = o.isSome) := by
  cases o with
  | none => exact ⟨_, _, rfl, rfl⟩
  | some n => exact ⟨_, _, rfl, rfl⟩
theorem samT_eq (A B : List En) : samT A B = if chk A = 0 then if chk B = 0 then !(difT A B).isSome else false else false := by
  rw [samT, difT]
  by_cases h1 : chk A = 0
  · by_cases h2 : chk B = 0
    · rw [if_pos h1, if_pos h2, if_pos (show chk A = 0 ∧ chk B = 0 from ⟨h1, h2⟩)]
      cases difO A B <;> simp [h1, h2]
    · rw [if_pos h1, if_neg h2, decide_eq_false (fun h => h2 h.2.1)]
  · rw [if_neg h1, decide_eq_false (fun h => h1 h.1)]
theorem sameR_v (ao bo : Option Addr) (L M : List En) (c d : Nat) (w : World) (hL : Ens w ao L) (hLa : ∀ e ∈ L, e.p.a < 4294967296) (hn : L.length ≤ 1000000) (hz : ao = none → c = 0) (hM : Ens w bo M) (hMa : ∀ e ∈ M, e.p.a < 4294967296) (hn2 : M.length ≤ 1000000) (hz2 : bo = none → d = 0) :
    Calls Try.prog 23 #[.slice ao L.length c, .slice bo M.length d] w (Ret (.bool (samT L M)) w) := by
  refine V_enter (vs := [_, _]) Try.func23 rfl Try.ntmps23 (Nat.le_of_ble_eq_true rfl) ?_
  obtain ⟨z, b, e1, e2⟩ := dif_cases (difT L M)
  have hsm := samT_eq L M
  rw [← e2] at hsm
  repeat (first | refine Vx ?_ | (apply Ops_q; (case hon => exact Va); (case hd => rfl); (case hq => exact YlA)) | refine Vr ?_ | refine Vt ?_ | refine Vf ?_ | refine Vm ?_ | refine Ve ?_ | refine Vo ?_ | refine Vz ?_ | refine Vn ?_)
  have hdf := fun w_ h => differR_v ao bo L M c d w_ (hL.ext h) hLa hn hz (hM.ext h) hMa hn2 hz2
  rw [e1] at hdf
  (apply Ops_q; (case hon => (exact Va)); (case hd => rfl); (case hq => exact Yl_call rfl (fun w_ e_ => hdf w_ e_)))
  repeat (first | refine Vx ?_ | (apply Ops_q; (case hon => exact Va); (case hd => rfl); (case hq => exact YlA)) | refine Vr ?_ | refine Vt ?_ | refine Vf ?_ | refine Vm ?_ | refine Ve ?_ | refine Vo ?_ | refine Vz ?_ | refine Vn ?_)
  (apply Ops_q; (case hon => (exact Va)); (case hd => rfl); (case hq => exact Yl_call rfl (fun w_ e_ => checkR_v ao L c w_ (hL.ext e_) hLa hn)))
  repeat (first | refine Vx ?_ | (apply Ops_q; (case hon => exact Va); (case hd => rfl); (case hq => exact YlA)) | refine Vr ?_ | refine Vt ?_ | refine Vf ?_ | refine Vm ?_ | refine Ve ?_ | refine Vo ?_ | refine Vz ?_ | refine Vn ?_)
  refine Ops_split rfl rfl (fun h1 => ?_) (fun h1 => ?_)
  · have h0 : chk L = 0 := by simpa using h1
    rw [if_pos h0] at hsm
    repeat (first | refine Vx ?_ | (apply Ops_q; (case hon => exact Va); (case hd => rfl); (case hq => exact YlA)) | refine Vr ?_ | refine Vt ?_ | refine Vf ?_ | refine Vm ?_ | refine Ve ?_ | refine Vo ?_ | refine Vz ?_ | refine Vn ?_)
    (apply Ops_q; (case hon => (exact Va)); (case hd => rfl); (case hq => exact Yl_call rfl (fun w_ e_ => checkR_v bo M d w_ (hM.ext e_) hMa hn2)))
    repeat (first | refine Vx ?_ | (apply Ops_q; (case hon => exact Va); (case hd => rfl); (case hq => exact YlA)) | refine Vr ?_ | refine Vt ?_ | refine Vf ?_ | refine Vm ?_ | refine Ve ?_ | refine Vo ?_ | refine Vz ?_ | refine Vn ?_)
    refine Ops_split rfl rfl (fun h2 => ?_) (fun h2 => ?_)
    · have h3 : chk M = 0 := by simpa using h2
      rw [if_pos h3] at hsm
      repeat (first | refine Vx ?_ | (apply Ops_q; (case hon => exact Va); (case hd => rfl); (case hq => exact YlA)) | refine Vr ?_ | refine Vt ?_ | refine Vf ?_ | refine Vm ?_ | refine Ve ?_ | refine Vo ?_ | refine Vz ?_ | refine Vn ?_)
      refine ret1 (by first | exact .inl rfl | exact .inr rfl) rfl rfl ?_
      exact Ret_mk (by rw [hsm]) (Ext.refl _)
    · have h3 : ¬chk M = 0 := by simpa using h2
      rw [if_neg h3] at hsm
      repeat (first | refine Vx ?_ | (apply Ops_q; (case hon => exact Va); (case hd => rfl); (case hq => exact YlA)) | refine Vr ?_ | refine Vt ?_ | refine Vf ?_ | refine Vm ?_ | refine Ve ?_ | refine Vo ?_ | refine Vz ?_ | refine Vn ?_)
      refine ret1 (by first | exact .inl rfl | exact .inr rfl) rfl rfl ?_
      exact Ret_mk (by rw [hsm]) (Ext.refl _)
  · have h0 : ¬chk L = 0 := by simpa using h1
    rw [if_neg h0] at hsm
    repeat (first | refine Vx ?_ | (apply Ops_q; (case hon => exact Va); (case hd => rfl); (case hq => exact YlA)) | refine Vr ?_ | refine Vt ?_ | refine Vf ?_ | refine Vm ?_ | refine Ve ?_ | refine Vo ?_ | refine Vz ?_ | refine Vn ?_)
    refine ret1 (by first | exact .inl rfl | exact .inr rfl) rfl rfl ?_
    exact Ret_mk (by rw [hsm]) (Ext.refl _)
end Go.Proofs.Ytjpnaofoeeegeaa

/-
  Stride tables (layer 8): the runs of a table; Build.
  Conditions: the table's addresses are below 2^32, its length is one that a machine holds.
-/
namespace Go.Proofs.Ytjpnaofoeeegeaa
open Go.RowKit

/-- Up to where the runs are known when k of the bounds were taken. -/
def endN (D : List Int) (k : Nat) : Nat := match D[k]? with
  | some x => x.toNat
  | none => 4294967296
/-- A sorted list of all bounds, and 2^32 perhaps. -/
structure BndD (L : List En) (D : List Int) : Prop where
  asc : D.Pairwise (· < ·)
  mem : ∀ x, x ∈ D ↔ x = 0 ∨ x ∈ words L
  rng : ∀ x ∈ D, 0 ≤ x ∧ x ≤ 4294967296
theorem asc_at {D : List Int} (h : D.Pairwise (· < ·)) {i j : Nat} {x y : Int} (hi : D[i]? = some x) (hj : D[j]? = some y) (hij : i < j) : x < y := by
  obtain ⟨h1, rfl⟩ := List.getElem?_eq_some_iff.1 hi
  obtain ⟨h2, rfl⟩ := List.getElem?_eq_some_iff.1 hj
  exact List.pairwise_iff_getElem.1 h i j h1 h2 hij
section
variable {L : List En} {D : List Int}
theorem BndD.zero (h : BndD L D) : endN D 0 = 0 := by
  have h0 : (0 : Int) ∈ D := (h.mem 0).2 (.inl rfl)
  obtain ⟨i, hi⟩ := List.getElem?_of_mem h0
  have hl := (List.getElem?_eq_some_iff.1 hi).1
  have hx : D[0]? = some (D[0]'(by omega)) := List.getElem?_eq_getElem (by omega)
  unfold endN
  rw [hx]
  dsimp only
  rcases Nat.eq_zero_or_pos i with e | e
  · subst e; rw [hx] at hi; rw [Option.some.inj hi]; rfl
  · have := asc_at h.asc hx hi e
    have := (h.rng _ (List.mem_of_getElem? hx)).1
    omega
theorem BndD.step (h : BndD L D) {k : Nat} {n : Nat} (hk : D[k]? = some (n : Int)) (hn : n ≠ 4294967296) : n < endN D (k + 1) ∧ endN D (k + 1) ≤ 4294967296 ∧ n < 4294967296 := by
  have h1 := h.rng _ (List.mem_of_getElem? hk)
  unfold endN
  cases hy : D[k + 1]? with
  | none => dsimp only; omega
  | some y =>
    have h2 := asc_at h.asc hk hy (Nat.lt_succ_self k)
    have h3 := h.rng _ (List.mem_of_getElem? hy)
    dsimp only; omega
theorem BndD.flat (h : BndD L D) (hv : ∀ e ∈ L, e.p.valid = true) {k n : Nat} (hk : D[k]? = some (n : Int)) {a : Nat} (h1 : n ≤ a) (h2 : a < endN D (k + 1)) : lk L a = lk L n := by
  refine lk_const hv h1 fun b hb hba => ?_
  obtain ⟨i, hi⟩ := List.getElem?_of_mem ((h.mem b).2 (.inr hb))
  rcases Nat.lt_or_ge k i with h3 | h3
  · exfalso
    unfold endN at h2
    rcases Nat.lt_or_ge (k + 1) i with h4 | h4
    · obtain ⟨y, hy⟩ : ∃ y, D[k + 1]? = some y := ⟨_, List.getElem?_eq_getElem (by have := (List.getElem?_eq_some_iff.1 hi).1; omega)⟩
      have h5 := asc_at h.asc hy hi h4
      have h6 := h.rng _ (List.mem_of_getElem? hy)
      rw [hy] at h2
      dsimp only at h2; omega
    · rw [show k + 1 = i by omega, hi] at h2
      have h6 := h.rng _ (List.mem_of_getElem? hi)
      dsimp only at h2; omega
  · rcases Nat.lt_or_ge i k with h4 | h4
    · exact Int.le_of_lt (asc_at h.asc hi hk h4)
    · rw [show i = k by omega, hk] at hi
      exact Int.le_of_eq (Option.some.inj hi).symm
end
/-- What runs returns. -/
def RunR (L : List En) (w0 : World) (r : Value) (w' : World) : Prop := ∃ R : List Rn, Own w' w0.heap.size 94 2 r (R.map rnC) ∧ Canon (lk L) R 4294967296
set_option maxHeartbeats 2000000 in
theorem runs_v (ao : Option Addr) (L : List En) (c : Nat) (w : World) (hL : Ens w ao L) (hLa : ∀ e ∈ L, e.p.a < 4294967296) (hn : L.length ≤ 1000000) (hT : Tb L) :
    Calls Try.prog 37 #[.slice ao L.length c] w (Gives (RunR L w) w) := by
  have hLv : ∀ e ∈ L, e.p.valid = true := fun e he => (hT.ok e he).1
  refine V_enter (vs := [_]) Try.func37 rfl Try.ntmps37 (Nat.le_of_ble_eq_true rfl) ?_
  repeat (first | refine Vx ?_ | (apply Ops_q; (case hon => exact Va); (case hd => rfl); (case hq => exact YlA)) | refine Vr ?_ | refine Vt ?_ | refine Vf ?_ | refine Vm ?_ | refine Ve ?_ | refine Vo ?_ | refine Vz ?_ | refine Vn ?_)
  (refine Ops_callR (by exact Va) rfl rfl (fun w_ e_ => of_entries_v ao L c w_ (hL.ext e_) hLa hn) ?_; intro vt w1 w0_ e0_ e1_ r_vt; have e_w1 := e0_.trans e1_; have b_vt := e0_.size; clear e0_ e1_)
  unfold OfR at r_vt
  rw [if_pos hT.allOk] at r_vt
  obtain ⟨bt, Nt, rfl, ht⟩ := r_vt
  clear b_vt
  repeat (first | refine Vx ?_ | (apply Ops_q; (case hon => exact Va); (case hd => rfl); (case hq => exact YlA)) | refine Vr ?_ | refine Vt ?_ | refine Vf ?_ | refine Vm ?_ | refine Ve ?_ | refine Vo ?_ | refine Vz ?_ | refine Vn ?_)
  (refine Ops_lit (by exact Va) rfl rfl rfl ?_; intro w2 b2 n_b2; have k_b2 := n_b2.blk)
  have x2 : Ext w1 w2 := n_b2.ext
  have o2 : Own w2 w1.heap.size 53 1 (.slice (some ⟨b2, 0, none⟩) 1 1) (([0] : List Int).map uc) := own_lit1 n_b2
  clear k_b2 n_b2
  repeat (first | refine Vx ?_ | (apply Ops_q; (case hon => exact Va); (case hd => rfl); (case hq => exact YlA)) | refine Vr ?_ | refine Vt ?_ | refine Vf ?_ | refine Vm ?_ | refine Ve ?_ | refine Vo ?_ | refine Vz ?_ | refine Vn ?_)
  refine V_loop (fun s : Nat × Value => [(22, .int .i64 s.1), (21, .int .i64 L.length), (20, .slice ao L.length c), (5, s.2), (3, .pointer (some ⟨bt, 0, none⟩))])
    (fun s w' => s.1 ≤ L.length ∧ Ext w1 w' ∧ Own w' w1.heap.size 53 1 s.2 ((0 :: words (L.take s.1)).map uc)) (fun s => L.length - s.1) (0, .slice (some ⟨b2, 0, none⟩) 1 1) (by repeat (first | exact trivial | refine ⟨rfl, ?_⟩))
    ⟨Nat.zero_le _, x2, o2⟩ ?_
  clear o2
  rintro ⟨j, u⟩ w3 ⟨hj, x3, o3⟩
  dsimp only at hj o3 ⊢
  repeat (first | refine Vx ?_ | (apply Ops_q; (case hon => exact Va); (case hd => rfl); (case hq => exact YlA)) | refine Vr ?_ | refine Vt ?_ | refine Vf ?_ | refine Vm ?_ | refine Ve ?_ | refine Vo ?_ | refine Vz ?_ | refine Vn ?_)
  refine V_cond rfl (fun hg => ?_) (fun hg => ?_)
  · replace hg := of_decide_eq_true hg
    have hjl : j < L.length := by omega
    obtain ⟨x, hx⟩ : ∃ x, L[j]? = some x := ⟨_, List.getElem?_eq_getElem hjl⟩
    obtain ⟨ad2, rfl, hcx⟩ := hL.at hx
    have hxa := hLa x (List.mem_of_getElem? hx)
    have hxl := last_lt' x.p hxa
    have hc1 : Cells w3 (ad2.add (j * 3)) [.int .u32 x.p.a, .int .i64 x.p.n, .int .i64 x.v] := hcx.ext (e_w1.trans x3)
    repeat (first | refine Vx ?_ | (apply Ops_q; (case hon => exact Va); (case hd => rfl); (case hq => exact YlA)) | refine Vr ?_ | refine Vt ?_ | refine Vf ?_ | refine Vm ?_ | refine Ve ?_ | refine Vo ?_ | refine Vz ?_ | refine Vn ?_)
    (apply Ops_q; (case hon => (exact Va)); (case hd => rfl); (case hq => exact Yl_indexS (j := j) rfl rfl (by omega)))
    repeat (first | refine Vx ?_ | (apply Ops_q; (case hon => exact Va); (case hd => rfl); (case hq => exact YlA)) | refine Vr ?_ | refine Vt ?_ | refine Vf ?_ | refine Vm ?_ | refine Ve ?_ | refine Vo ?_ | refine Vz ?_ | refine Vn ?_)
    (refine Ops_alloc (by exact Va) rfl ?_; intro w4 b4 n_b4; have k_b4 := n_b4.blk)
    repeat (first | refine Vx ?_ | (apply Ops_q; (case hon => exact Va); (case hd => rfl); (case hq => exact YlA)) | refine Vr ?_ | refine Vt ?_ | refine Vf ?_ | refine Vm ?_ | refine Ve ?_ | refine Vo ?_ | refine Vz ?_ | refine Vn ?_)
    (refine Ops_store (by exact Va) rfl rfl (by assumption) (by first | rfl | exact OneAll.h) ?_; intro w5 u_w5; have k_b4 := u_w5.blk)
    have x5 := u_w5.below (x3.trans n_b4.ext) (Nat.le_trans x3.size n_b4.ge)
    have hb4 : u.ownBlock ≠ some b4 := fun e => by have := o3.lt e; have := n_b4.ge; omega
    have o5 := (o3.ext n_b4.ext).upd u_w5 hb4
    have hpart : Cells w5 ⟨b4, 0, none⟩ [.int .u32 x.p.a, .int .i64 x.p.n] := k_b4.part 0 2
    clear u_w5 n_b4
    repeat (first | refine Vx ?_ | (apply Ops_q; (case hon => exact Va); (case hd => rfl); (case hq => exact YlA)) | refine Vt ?_ | refine Vf ?_ | refine Vm ?_ | refine Ve ?_ | refine Vo ?_ | refine Vz ?_ | refine Vn ?_)
    refine V_lit 11 10 [.int .u64 (x.p.a : Int), .int .u64 ((x.p.last : Int) + 1)] (by kernel_rfl) rfl (by kernel_rfl) rfl rfl ?_
    repeat (first | refine Vx ?_ | (apply Ops_q; (case hon => exact Va); (case hd => rfl); (case hq => exact YlA)) | refine Vr ?_ | refine Vt ?_ | refine Vf ?_ | refine Vm ?_ | refine Ve ?_ | refine Vo ?_ | refine Vz ?_ | refine Vn ?_)
    (apply Ops_q; (case hon => (exact Va)); (case hd => rfl); (case hq => exact Yl_call rfl (fun w_ e_ => last_v x.p w_ hxa)))
    repeat (first | refine Vx ?_ | (apply Ops_q; (case hon => exact Va); (case hd => rfl); (case hq => exact YlA)) | refine Vr ?_ | refine Vt ?_ | refine Vf ?_ | refine Vm ?_ | refine Ve ?_ | refine Vo ?_ | refine Vz ?_ | refine Vn ?_)
    refine ⟨_, rfl, inferInstance, rfl, ?_⟩
    repeat (first | refine Vx ?_ | (apply Ops_q; (case hon => exact Va); (case hd => rfl); (case hq => exact YlA)) | refine Vr ?_ | refine Vt ?_ | refine Vf ?_ | refine Vm ?_ | refine Ve ?_ | refine Vo ?_ | refine Vz ?_ | refine Vn ?_)
    intro w6 b6 n_b6
    have o6 := o5.ext n_b6.ext
    have x6 := x5.trans n_b6.ext
    have hlen : ((0 :: words (L.take j)).map uc).length ≤ 8000000 := by
      have h1 := words_len (L.take j)
      rw [List.length_take] at h1
      simp only [List.length_map, List.length_cons]; omega
    refine Ops_appendL (M := [uc (x.p.a : Int), uc ((x.p.last : Int) + 1)]) (by exact Va) rfl rfl rfl rfl o6 n_b6.blk.cells rfl (fun z hz => by simp at hz; rcases hz with rfl | rfl <;> rfl) (fun z hz => by simp at hz; rcases hz with rfl | rfl <;> rfl) (by omega) (by omega) x6.size ?_
    intro v' w7 o7 g7 d7
    have x7 : Ext w1 w7 := Mod.ext_of x6 ((Mod.of_ext (S := fun c => u.ownBlock = some c) (Ext.refl w6)).grow g7 (fun b hb => .inl hb)) (fun c hc => o6.ge hc)
    repeat (first | refine Vx ?_ | (apply Ops_q; (case hon => exact Va); (case hd => rfl); (case hq => exact YlA)) | refine Vr ?_ | refine Vt ?_ | refine Vf ?_ | refine Vm ?_ | refine Ve ?_ | refine Vo ?_ | refine Vz ?_ | refine Vn ?_)
    refine ⟨(j + 1, v'), (by repeat (first | exact trivial | refine ⟨rfl, ?_⟩)), ⟨hjl, x7, ?_⟩, by simp only; omega⟩
    dsimp only
    rw [words_snoc hx]
    have := o7
    simp only [List.map_cons, List.map_append, List.cons_append, List.map_nil] at this ⊢
    exact this
  · replace hg := of_decide_eq_false hg
    obtain rfl : j = L.length := by omega
    rw [List.take_length] at o3
    have hWl : (0 :: words L).length ≤ 8000000 := by
      have := words_len L
      rw [List.length_cons]; omega
    obtain ⟨g, cap, rfl, hgb, hglt, _⟩ := o3.addr (by simp)
    have D1 : DatU w3 w1.heap.size g ((0 :: words L).map uc).length cap (0 :: words L) := ⟨o3, (List.length_map ..).symm⟩
    have hnb : ((0 :: words L).map uc).length ≤ 1000000000000 := by rw [List.length_map]; omega
    generalize hnn : ((0 :: words L).map uc).length = n at *
    repeat (first | refine Vx ?_ | (apply Ops_q; (case hon => exact Va); (case hd => rfl); (case hq => exact YlA)) | refine Vr ?_ | refine Vt ?_ | refine Vf ?_ | refine Vm ?_ | refine Ve ?_ | refine Vo ?_ | refine Vz ?_ | refine Vn ?_)
    refine Ops_callM (S := BlkU g) (R := fun _ => DatV w1.heap.size g n cap (fun r L' => r = .tuple #[] ∧ Moved (0 :: words L) L' 0 n ∧ Asc ltU L' 0 n)) (by exact Va) rfl rfl (fun w_ e_ => sortU_v hnb (0 :: words L) w_ (D1.ext e_)) ?_
    intro r w4 w0_ e0 m4 hR
    obtain ⟨M, D2, rfl, hM, hA⟩ := hR
    have x4 : Ext w1 w4 := Mod.ext_of (x3.trans e0) m4 (fun c hc => by rw [hc]; exact hgb)
    clear D1 o3 e0 m4
    repeat (first | refine Vx ?_ | (apply Ops_q; (case hon => exact Va); (case hd => rfl); (case hq => exact YlA)) | refine Vr ?_ | refine Vt ?_ | refine Vf ?_ | refine Vm ?_ | refine Ve ?_ | refine Vo ?_ | refine Vz ?_ | refine Vn ?_)
    refine Ops_callM (S := BlkU g) (R := fun _ => CmpR g n cap M) (by exact Va) rfl rfl (fun w_ e_ => compactU_v hnb M w_ (D2.ext e_) hA) ?_
    intro r w5 w0_ e0 m5 hR
    obtain ⟨D, rfl, hDn, hRd, hS⟩ := hR
    have x5 : Ext w1 w5 := Mod.ext_of (x4.trans e0) m5 (fun c hc => by rw [hc]; exact hgb)
    have hBD : BndD L D := ⟨hS.lt, fun x => by
      rw [hS.mem, List.take_of_length_le (by rw [D2.len]; exact Nat.le_refl _), hM.perm.mem_iff, List.mem_cons], fun x hx => by
      rw [hS.mem, List.take_of_length_le (by rw [D2.len]; exact Nat.le_refl _), hM.perm.mem_iff, List.mem_cons] at hx
      rcases hx with rfl | hx
      · omega
      · exact words_range hLa hx⟩
    have hDl : D.length ≤ 8000000 := by rw [List.length_map] at hnn; omega
    clear D2 e0 m5 hM hA hS x4
    repeat (first | refine Vx ?_ | (apply Ops_q; (case hon => exact Va); (case hd => rfl); (case hq => exact YlA)) | refine Vr ?_ | refine Vt ?_ | refine Vf ?_ | refine Vm ?_ | refine Ve ?_ | refine Vo ?_ | refine Vz ?_ | refine Vn ?_)
    refine V_loop (fun s : Nat × Value × List Rn => [(44, .int .i64 s.1), (43, .int .i64 D.length), (42, .slice (some ⟨g, 0, none⟩) D.length cap), (8, s.2.1), (3, .pointer (some ⟨bt, 0, none⟩))])
      (fun s w' => s.1 ≤ D.length ∧ Ext w5 w' ∧ Own w' w5.heap.size 94 2 s.2.1 (s.2.2.map rnC) ∧ Canon (lk L) s.2.2 (endN D s.1)) (fun s => D.length - s.1) (0, .slice none 0 0, []) (by repeat (first | exact trivial | refine ⟨rfl, ?_⟩))
      ⟨Nat.zero_le _, Ext.refl _, Own.nil, by dsimp only; rw [hBD.zero]; exact Canon.zero _⟩ ?_
    rintro ⟨k, v, R⟩ w6 ⟨hk, x6, o6, hC⟩
    dsimp only at hk o6 hC ⊢
    have hfin : endN D k = 4294967296 → ∀ w', Ext w6 w' → RunR L w v w' := fun e w' he => ⟨R, (o6.ext he).mono (Nat.le_trans e_w1.size x5.size), by rw [← e]; exact hC⟩
    repeat (first | refine Vx ?_ | (apply Ops_q; (case hon => exact Va); (case hd => rfl); (case hq => exact YlA)) | refine Vr ?_ | refine Vt ?_ | refine Vf ?_ | refine Vm ?_ | refine Ve ?_ | refine Vo ?_ | refine Vz ?_ | refine Vn ?_)
    refine V_cond rfl (fun hg2 => ?_) (fun hg2 => ?_)
    · replace hg2 := of_decide_eq_true hg2
      have hkl : k < D.length := by omega
      obtain ⟨ni, hni⟩ : ∃ ni, D[k]? = some ni := ⟨_, List.getElem?_eq_getElem hkl⟩
      have hrg := hBD.rng ni (List.mem_of_getElem? hni)
      obtain ⟨n0, rfl⟩ : ∃ n0 : Nat, ni = n0 := ⟨ni.toNat, by omega⟩
      have hn32 : n0 ≤ 4294967296 := by omega
      have hcn := (hRd.ext x6) k _ hni
      clear hrg
      repeat (first | refine Vx ?_ | (apply Ops_q; (case hon => exact Va); (case hd => rfl); (case hq => exact YlA)) | refine Vr ?_ | refine Vt ?_ | refine Vf ?_ | refine Vm ?_ | refine Ve ?_ | refine Vo ?_ | refine Vz ?_ | refine Vn ?_)
      (apply Ops_q; (case hon => (exact Va)); (case hd => rfl); (case hq => exact Yl_indexS (j := k) rfl rfl (by omega)))
      repeat (first | refine Vx ?_ | (apply Ops_q; (case hon => exact Va); (case hd => rfl); (case hq => exact YlA)) | refine Vr ?_ | refine Vt ?_ | refine Vf ?_ | refine Vm ?_ | refine Ve ?_ | refine Vo ?_ | refine Vz ?_ | refine Vn ?_)
      refine V_cond rfl (fun hbr => ?_) (fun hbr => ?_)
      · have e : endN D k = 4294967296 := by have := of_decide_eq_true hbr; unfold endN; rw [hni]; dsimp only; omega
        clear hbr
        repeat (first | refine Vx ?_ | (apply Ops_q; (case hon => exact Va); (case hd => rfl); (case hq => exact YlA)) | refine Vr ?_ | refine Vt ?_ | refine Vf ?_ | refine Vm ?_ | refine Ve ?_ | refine Vo ?_ | refine Vz ?_ | refine Vn ?_)
        refine ret1 (by first | exact .inl rfl | exact .inr rfl) rfl rfl ?_
        exact Gives_mk (hfin e) (e_w1.trans (x5.trans x6))
      · have hne : n0 ≠ 4294967296 := by have := of_decide_eq_false hbr; omega
        clear hbr
        have hst := hBD.step hni hne
        have hlkE : lookO (ofS L).1 n0 = lk L n0 := lookO_eq n0 hT
        have hlow : n0 < 4294967296 := hst.2.2
        have ht6 := ht.ext (x5.trans x6)
        have hRl := hC.len
        have hCk : endN D k = n0 := by unfold endN; rw [hni]; rfl
        rw [hCk] at hC hRl
        have hRl2 : R.length ≤ 4294967296 := by omega
        have hext := hC.ext (g' := lk L) (v := lk L n0) hst.1 (fun _ _ => rfl) (fun a h1 h2 => hBD.flat hLv hni h1 h2)
        repeat (first | refine Vx ?_ | (apply Ops_q; (case hon => exact Va); (case hd => rfl); (case hq => exact YlA)) | refine Vr ?_ | refine Vt ?_ | refine Vf ?_ | refine Vm ?_ | refine Ve ?_ | refine Vo ?_ | refine Vz ?_ | refine Vn ?_)
        (apply Ops_q; (case hon => (exact Va)); (case hd => rfl); (case hq => exact Yl_call rfl (fun w_ e_ => lookup_v n0 w_ (ht6.ext e_) hlow)))
        repeat (first | refine Vx ?_ | (apply Ops_q; (case hon => exact Va); (case hd => rfl); (case hq => exact YlA)) | refine Vr ?_ | refine Vt ?_ | refine Vf ?_ | refine Vm ?_ | refine Ve ?_ | refine Vo ?_ | refine Vz ?_ | refine Vn ?_)
        (refine Ops_alloc (by exact Va) rfl ?_; intro w7 b7 n_b7; have k_b7 := n_b7.blk)
        repeat (first | refine Vx ?_ | (apply Ops_q; (case hon => exact Va); (case hd => rfl); (case hq => exact YlA)) | refine Vr ?_ | refine Vt ?_ | refine Vf ?_ | refine Vm ?_ | refine Ve ?_ | refine Vo ?_ | refine Vz ?_ | refine Vn ?_)
        (refine Ops_store (by exact Va) rfl rfl (by assumption) (by first | rfl | exact OneAll.h) ?_; intro w8 u_w8; have k_b7 := u_w8.blk)
        have x8 : Ext w6 w8 := u_w8.below n_b7.ext n_b7.ge
        have o8 : Own w8 w5.heap.size 94 2 v (R.map rnC) := o6.ext x8
        clear u_w8 n_b7
        repeat (first | refine Vx ?_ | (apply Ops_q; (case hon => exact Va); (case hd => rfl); (case hq => exact YlA)) | refine Vr ?_ | refine Vt ?_ | refine Vf ?_ | refine Vm ?_ | refine Ve ?_ | refine Vo ?_ | refine Vz ?_ | refine Vn ?_)
        refine V_meet1 (fun _ : Unit => [(11, .int .i64 (lk L n0)), (10, .int .u64 n0), (44, .int .i64 k), (43, .int .i64 D.length), (42, .slice (some ⟨g, 0, none⟩) D.length cap), (8, v), (3, .pointer (some ⟨bt, 0, none⟩))])
          (fun _ w' => w' = w8) ?_ ?_
        · unfold lookO at hlkE
          cases ho : lookE (ofS L).1 n0 with
          | none =>
            rw [ho] at hlkE
            repeat (first | refine Vx ?_ | (apply Ops_q; (case hon => exact Va); (case hd => rfl); (case hq => exact YlA)) | refine Vr ?_ | refine Vt ?_ | refine Vf ?_ | refine Vm ?_ | refine Ve ?_ | refine Vo ?_ | refine Vz ?_ | refine Vn ?_)
            rw [← hlkE]
            exact ⟨(), (by repeat (first | exact trivial | refine ⟨rfl, ?_⟩)), rfl⟩
          | some e =>
            rw [ho] at hlkE k_b7
            repeat (first | refine Vx ?_ | (apply Ops_q; (case hon => exact Va); (case hd => rfl); (case hq => exact YlA)) | refine Vr ?_ | refine Vt ?_ | refine Vf ?_ | refine Vm ?_ | refine Ve ?_ | refine Vo ?_ | refine Vz ?_ | refine Vn ?_)
            rw [← hlkE]
            exact ⟨(), (by repeat (first | exact trivial | refine ⟨rfl, ?_⟩)), rfl⟩
        · rintro _ w9 rfl
          repeat (first | refine Vx ?_ | (apply Ops_q; (case hon => exact Va); (case hd => rfl); (case hq => exact YlA)) | refine Vr ?_ | refine Vt ?_ | refine Vf ?_ | refine Vm ?_ | refine Ve ?_ | refine Vo ?_ | refine Vz ?_ | refine Vn ?_)
          refine Ops_callM (S := fun c => v.ownBlock = some c) (R := fun w0 => ExtR w5.heap.size (extR R n0 (lk L n0)) v w0) (by exact Va) rfl rfl (fun w_ e_ => extend_v R n0 (lk L n0) w_ (o8.ext e_) (Nat.le_trans (x6.trans x8).size e_.size) hRl2) ?_
          intro v2 w10 w0_ e0 m10 hR2
          obtain ⟨o10, _⟩ := hR2
          have x10 : Ext w5 w10 := Mod.ext_of ((x6.trans x8).trans e0) m10 (fun c hc => o6.ge hc)
          repeat (first | refine Vx ?_ | (apply Ops_q; (case hon => exact Va); (case hd => rfl); (case hq => exact YlA)) | refine Vr ?_ | refine Vt ?_ | refine Vf ?_ | refine Vm ?_ | refine Ve ?_ | refine Vo ?_ | refine Vz ?_ | refine Vn ?_)
          exact ⟨(k + 1, v2, extR R n0 (lk L n0)), (by repeat (first | exact trivial | refine ⟨rfl, ?_⟩)), ⟨hkl, x10, o10, hext⟩, by simp only; omega⟩
    · replace hg2 := of_decide_eq_false hg2
      have e : endN D k = 4294967296 := by unfold endN; rw [List.getElem?_eq_none (by omega)]
      repeat (first | refine Vx ?_ | (apply Ops_q; (case hon => exact Va); (case hd => rfl); (case hq => exact YlA)) | refine Vr ?_ | refine Vt ?_ | refine Vf ?_ | refine Vm ?_ | refine Ve ?_ | refine Vo ?_ | refine Vz ?_ | refine Vn ?_)
      refine ret1 (by first | exact .inl rfl | exact .inr rfl) rfl rfl ?_
      exact Gives_mk (hfin e) (e_w1.trans (x5.trans x6))
end Go.Proofs.Ytjpnaofoeeegeaa

/-
  Stride tables (layer 8): Build; the reference's block, uniform and Build.
  Conditions: the table's addresses are below 2^32, its length is one that a machine holds.
-/
namespace Go.Proofs.Ytjpnaofoeeegeaa
open Go.RowKit

theorem IsCf.w {g : Nat → Int} {N : List Nd} {L : List Int} (h : IsCf g N L) : NdW N := fun x hx => by
  obtain ⟨c, h2, _⟩ := isCf_len h
  obtain ⟨i, hi⟩ := List.getElem?_of_mem hx
  have hl := (List.getElem?_eq_some_iff.1 hi).1
  obtain ⟨p, hp⟩ := c.place hl
  have := c.node hp hl
  rw [← h2, hi] at this
  cases this
  exact ⟨mkW_lt _ 64, mkW_lt _ 64⟩
theorem IsCf.size {g : Nat → Int} {N : List Nd} {L : List Int} (h : IsCf g N L) : N.length ≤ 75418890625 ∧ L.length ≤ 4826809000000 := by
  obtain ⟨c, h2, h3⟩ := isCf_len h
  have h4 := row_len_le (Nat.le_of_eq c.eq)
  rw [← c.eq, plW_zero] at h4
  have h5 := lv_le g N.length
  rw [← h3] at h5
  omega
/-- What Build's result is. -/
def BldOk (T : List En) (N : List Nd) (L : List Int) : Prop := (chk T = 0 ∧ IsCf (lk T) N L) ∨ (chk T ≠ 0 ∧ N = [] ∧ L = [])
theorem BldOk.unique {T : List En} {N N' : List Nd} {L L' : List Int} (h : BldOk T N L) (h' : BldOk T N' L') : N = N' ∧ L = L' := by
  rcases h with ⟨h1, h2⟩ | ⟨h1, h2, h3⟩ <;> rcases h' with ⟨h4, h5⟩ | ⟨h4, h5, h6⟩
  · exact isCf_unique h2 h5
  · exact absurd h1 h4
  · exact absurd h4 h1
  · exact ⟨by rw [h2, h5], by rw [h3, h6]⟩
theorem BldOk.size {T : List En} {N : List Nd} {L : List Int} (h : BldOk T N L) : N.length ≤ 75418890625 ∧ L.length ≤ 4826809000000 := by
  rcases h with ⟨_, h2⟩ | ⟨_, h2, h3⟩
  · exact h2.size
  · rw [h2, h3]; exact ⟨by simp, by simp⟩
def BldR (T : List En) (r : Value) (w' : World) : Prop :=
  ∃ (aN aL : Option Addr) (N : List Nd) (L : List Int) (cN cL : Nat), r = .tuple #[.agg #[.slice aN N.length cN, .slice aL L.length cL], .int .i64 (chk T)] ∧ BldOk T N L ∧ Nds w' aN N ∧ Ins w' aL L
theorem build_v (ao : Option Addr) (T : List En) (c : Nat) (w : World) (hT : Ens w ao T) (ha : ∀ e ∈ T, e.p.a < 4294967296) (hn : T.length ≤ 1000000) :
    Calls Try.prog 12 #[.slice ao T.length c] w (Gives (BldR T) w) := by
  refine V_enter (vs := [_]) Try.func12 rfl Try.ntmps12 (Nat.le_of_ble_eq_true rfl) ?_
  repeat (first | refine Vx ?_ | (apply Ops_q; (case hon => exact Va); (case hd => rfl); (case hq => exact YlA)) | refine Vr ?_ | refine Vt ?_ | refine Vf ?_ | refine Vm ?_ | refine Ve ?_ | refine Vo ?_ | refine Vz ?_ | refine Vn ?_)
  (refine Ops_alloc (by exact Va) rfl ?_; intro w1 b2 n_b2; have k_b2 := n_b2.blk)
  have x1 := n_b2.ext
  have g2 := n_b2.ge
  clear n_b2
  repeat (first | refine Vx ?_ | (apply Ops_q; (case hon => exact Va); (case hd => rfl); (case hq => exact YlA)) | refine Vr ?_ | refine Vt ?_ | refine Vf ?_ | refine Vm ?_ | refine Ve ?_ | refine Vo ?_ | refine Vz ?_ | refine Vn ?_)
  (apply Ops_q; (case hon => (exact Va)); (case hd => rfl); (case hq => exact Yl_call rfl (fun w_ e_ => check_v ao T c w_ (hT.ext (x1.trans e_)) ha hn)))
  repeat (first | refine Vx ?_ | (apply Ops_q; (case hon => exact Va); (case hd => rfl); (case hq => exact YlA)) | refine Vr ?_ | refine Vt ?_ | refine Vf ?_ | refine Vm ?_ | refine Ve ?_ | refine Vo ?_ | refine Vz ?_ | refine Vn ?_)
  by_cases h0 : chk T = 0
  · have d0 : (!decide (chk T = 0)) = false := by rw [decide_eq_true h0]; rfl
    refine V_no rfl d0 ?_
    have hTb := (chk_iff.1 h0).2
    repeat (first | refine Vx ?_ | (apply Ops_q; (case hon => exact Va); (case hd => rfl); (case hq => exact YlA)) | refine Vr ?_ | refine Vt ?_ | refine Vf ?_ | refine Vm ?_ | refine Ve ?_ | refine Vo ?_ | refine Vz ?_ | refine Vn ?_)
    (refine Ops_callR (by exact Va) rfl rfl (fun w_ e_ => runs_v ao T c w_ (hT.ext (x1.trans e_)) ha hn hTb) ?_; intro vr w2 w0_ e0_ e1_ r_vr; have e_w2 := e0_.trans e1_; have b_vr := e0_.size; clear e0_ e1_)
    obtain ⟨R, oR, hC⟩ := r_vr
    obtain ⟨aR, cR, rfl, hAR⟩ := ownS oR
    have hAR' : Rns w2 aR R := hAR
    have x2 := x1.trans e_w2
    replace k_b2 := k_b2.ext e_w2
    repeat (first | refine Vx ?_ | (apply Ops_q; (case hon => exact Va); (case hd => rfl); (case hq => exact YlA)) | refine Vr ?_ | refine Vt ?_ | refine Vf ?_ | refine Vm ?_ | refine Ve ?_ | refine Vo ?_ | refine Vz ?_ | refine Vn ?_)
    (refine Ops_callR (by exact Va) rfl rfl (fun w_ e_ => compress_v (lk T) aR R cR w_ (hAR'.ext e_) hC) ?_; intro vc w3 w0_ e0_ e1_ r_vc; have e_w3 := e0_.trans e1_; have b_vc := e0_.size; clear e0_ e1_)
    obtain ⟨vN, vL, N, L, rfl, hcf, oN, oL⟩ := r_vc
    obtain ⟨aN, cN, rfl, hAN⟩ := ownS oN
    obtain ⟨aL, cL, rfl, hAL⟩ := ownS oL
    have x3 := x2.trans e_w3
    replace k_b2 := k_b2.ext e_w3
    have hN2 := own_blk_ne oN k_b2 rfl
    have hL2 := own_blk_ne oL k_b2 rfl
    repeat (first | refine Vx ?_ | (apply Ops_q; (case hon => exact Va); (case hd => rfl); (case hq => exact YlA)) | refine Vr ?_ | refine Vt ?_ | refine Vf ?_ | refine Vm ?_ | refine Ve ?_ | refine Vo ?_ | refine Vz ?_ | refine Vn ?_)
    (refine Ops_store (by exact Va) rfl rfl (by assumption) (by first | rfl | exact OneAll.h) ?_; intro w4 u_w4; have k_b2 := u_w4.blk)
    have x4 := u_w4.below x3 g2
    have oN4 := oN.upd u_w4 hN2
    have oL4 := oL.upd u_w4 hL2
    repeat (first | refine Vx ?_ | (apply Ops_q; (case hon => exact Va); (case hd => rfl); (case hq => exact YlA)) | refine Vr ?_ | refine Vt ?_ | refine Vf ?_ | refine Vm ?_ | refine Ve ?_ | refine Vo ?_ | refine Vz ?_ | refine Vn ?_)
    refine retR2 (.inl rfl) rfl (res_agg rfl k_b2.cells) rfl ?_
    refine Gives_mk (fun w' he => ?_) x4
    have hAN5 : Nds w4 aN N := by obtain ⟨a', c', e1, h1⟩ := ownS oN4; cases e1; exact h1
    have hAL5 : Ins w4 aL L := by obtain ⟨a', c', e1, h1⟩ := ownS oL4; cases e1; exact h1
    exact ⟨aN, aL, N, L, cN, cL, by rw [h0], .inl ⟨h0, hcf⟩, hAN5.ext he, hAL5.ext he⟩
  · have d0 : (!decide (chk T = 0)) = true := by rw [decide_eq_false h0]; rfl
    refine V_yes rfl d0 ?_
    repeat (first | refine Vx ?_ | (apply Ops_q; (case hon => exact Va); (case hd => rfl); (case hq => exact YlA)) | refine Vr ?_ | refine Vt ?_ | refine Vf ?_ | refine Vm ?_ | refine Ve ?_ | refine Vo ?_ | refine Vz ?_ | refine Vn ?_)
    (refine Ops_store (by exact Va) rfl rfl (by assumption) (by first | rfl | exact OneAll.h) ?_; intro w2 u_w2; have k_b2 := u_w2.blk)
    have x2 := u_w2.below x1 g2
    repeat (first | refine Vx ?_ | (apply Ops_q; (case hon => exact Va); (case hd => rfl); (case hq => exact YlA)) | refine Vr ?_ | refine Vt ?_ | refine Vf ?_ | refine Vm ?_ | refine Ve ?_ | refine Vo ?_ | refine Vz ?_ | refine Vn ?_)
    refine retR2 (.inl rfl) rfl (res_agg rfl k_b2.cells) rfl ?_
    exact Gives_mk (fun w' he => ⟨none, none, [], [], 0, 0, rfl, .inr ⟨h0, rfl, rfl⟩, Arr.nil, Arr.nil⟩) x2
/-! ### The reference -/
theorem Yl_quoN {P : Program} {N : Fr} {m : Env} {w : World} {dst : Option Tmp} {ty : TypeId} {pos : String} {after : Array Edge} {g : Option (Nat × Bool)} {t t' : TypeId} {x y : Operand} {k : IntKind} {a b : Nat} (hx : ev m x = some (.int k (a : Int))) (hy : ev m y = some (.int k (b : Int))) (hb : 0 < b) (hk : InK k ((a / b : Nat) : Int)) :
    Yl P N m w ⟨dst, .binOp .quo t x y t', ty, pos, after, g⟩ (.int k ((a / b : Nat) : Int)) := by
  have := Yl_quo (P := P) (N := N) (w := w) (dst := dst) (ty := ty) (pos := pos) (after := after) (g := g) (t := t) (t' := t') hx hy (by omega)
  rwa [Int.tdiv_eq_ediv_of_nonneg (Int.natCast_nonneg a), ← Int.natCast_ediv, wrap_in hk] at this
theorem blockR_v (base d x : Nat) (w : World) (hd : d ≤ 5) (hx : x < 64) (h32 : base + nsz d ≤ 4294967296) :
    Calls Try.prog 48 #[.int .u64 base, .int .i64 d, .int .i64 x] w (Ret (.tuple #[.int .u64 (digLo d base x), .int .u64 (digHi d base x)]) w) := by
  have hdig := dig_in (base := base) hd hx
  refine V_enter (vs := [_, _, _]) Try.func48 rfl Try.ntmps48 (Nat.le_of_ble_eq_true rfl) ?_
  repeat (first | refine Vx ?_ | (apply Ops_q; (case hon => exact Va); (case hd => rfl); (case hq => exact YlA)) | refine Vr ?_ | refine Vt ?_ | refine Vf ?_ | refine Vm ?_ | refine Ve ?_ | refine Vo ?_ | refine Vz ?_ | refine Vn ?_)
  refine V_cond rfl (fun h5 => ?_) (fun h5 => ?_)
  · have h5' : d = 5 := by have := of_decide_eq_true h5; omega
    clear h5
    subst h5'
    have e2 : (base : Int) + ((x / 16 : Nat) : Int) = ((digLo 5 base x : Nat) : Int) := by unfold digLo; rw [if_neg (by omega), Int.natCast_add]
    have hin : InK .u64 ((base : Int) + ((x / 16 : Nat) : Int)) := by rw [e2]; simp only [InK]; omega
    have hq : InK .u64 ((x / 16 : Nat) : Int) := by simp only [InK]; omega
    rw [nsz_five] at h32
    rw [nsz_five, show nsz (5 + 1) = 1 from rfl] at hdig
    repeat (first | refine Vx ?_ | (apply Ops_q; (case hon => exact Va); (case hd => rfl); (case hq => exact YlA)) | refine Vr ?_ | refine Vt ?_ | refine Vf ?_ | refine Vm ?_ | refine Ve ?_ | refine Vo ?_ | refine Vz ?_ | refine Vn ?_)
    (apply Ops_q; (case hon => (exact Va)); (case hd => rfl); (case hq => exact Yl_quoN (a := x) (b := 16) rfl rfl (by omega) hq))
    repeat (first | refine Vx ?_ | (apply Ops_q; (case hon => exact Va); (case hd => rfl); (case hq => exact YlA)) | refine Vr ?_ | refine Vt ?_ | refine Vf ?_ | refine Vm ?_ | refine Ve ?_ | refine Vo ?_ | refine Vz ?_ | refine Vn ?_)
    rw [e2]
    by_cases hm : x % 16 = 0
    · have hd1 : decide ((x : Int) % 16 = 0) = true := decide_eq_true (by omega)
      have eh : ((digLo 5 base x : Nat) : Int) + 1 = ((digHi 5 base x : Nat) : Int) := by
        unfold digHi
        rw [if_pos (show digOk 5 x = true by unfold digOk; rw [decide_eq_true hm, Bool.or_true]), nsz_six, Int.natCast_add]; rfl
      refine V_yes rfl hd1 ?_
      repeat (first | refine Vx ?_ | (apply Ops_q; (case hon => exact Va); (case hd => rfl); (case hq => exact YlA)) | refine Vr ?_ | refine Vt ?_ | refine Vf ?_ | refine Vm ?_ | refine Ve ?_ | refine Vo ?_ | refine Vz ?_ | refine Vn ?_)
      rw [eh]
      refine ret2 (by first | exact .inl rfl | exact .inr rfl) rfl rfl rfl ?_
      exact Ret_mk rfl (Ext.refl _)
    · have hd1 : decide ((x : Int) % 16 = 0) = false := decide_eq_false (by omega)
      have eh : digHi 5 base x = digLo 5 base x := by
        unfold digHi
        rw [if_neg (show ¬digOk 5 x = true by unfold digOk; rw [decide_eq_false hm, decide_eq_false (by omega)]; decide)]
      refine V_no rfl hd1 ?_
      repeat (first | refine Vx ?_ | (apply Ops_q; (case hon => exact Va); (case hd => rfl); (case hq => exact YlA)) | refine Vr ?_ | refine Vt ?_ | refine Vf ?_ | refine Vm ?_ | refine Ve ?_ | refine Vo ?_ | refine Vz ?_ | refine Vn ?_)
      refine ret2 (by first | exact .inl rfl | exact .inr rfl) rfl rfl rfl ?_
      exact Ret_mk (by rw [eh]) (Ext.refl _)
  · have h5' : d < 5 := by have := of_decide_eq_false h5; omega
    clear h5
    have e1 : (26 : Int) - 6 * (d : Int) = ((26 - 6 * d : Nat) : Int) := by omega
    have es : (1 : Int) * 2 ^ ((26 : Int) - 6 * (d : Int)).toNat = ((nsz (d + 1) : Nat) : Int) := by
      rw [e1, Int.toNat_natCast, Int.one_mul]
      unfold nsz
      rw [show 32 - 6 * (d + 1) = 26 - 6 * d by omega]; simp
    have hk : InK .u64 ((1 : Int) * 2 ^ ((26 : Int) - 6 * (d : Int)).toNat) := by rw [es]; simp only [InK]; omega
    have h64 : (x + 1) * nsz (d + 1) ≤ nsz d := by rw [nsz_step h5']; exact Nat.mul_le_mul_right _ (by omega)
    rw [Nat.succ_mul] at h64
    have em1 : (x : Int) * ((nsz (d + 1) : Nat) : Int) = ((x * nsz (d + 1) : Nat) : Int) := by rw [Int.natCast_mul]
    have em2 : ((x : Int) + 1) * ((nsz (d + 1) : Nat) : Int) = ((x * nsz (d + 1) + nsz (d + 1) : Nat) : Int) := by rw [← Nat.succ_mul, Int.natCast_mul]; rfl
    have el : (base : Int) + (x : Int) * ((nsz (d + 1) : Nat) : Int) = ((digLo d base x : Nat) : Int) := by unfold digLo; rw [if_pos h5', em1, Int.natCast_add]
    have eh : (base : Int) + ((x : Int) + 1) * ((nsz (d + 1) : Nat) : Int) = ((digHi d base x : Nat) : Int) := by
      have hok : digOk d x = true := by unfold digOk; rw [decide_eq_true h5']; rfl
      unfold digHi digLo; rw [if_pos hok, if_pos h5', em2]; omega
    have i1 : InK .u64 ((x : Int) * ((nsz (d + 1) : Nat) : Int)) := by rw [em1]; simp only [InK]; omega
    have i2 : InK .u64 (((x : Int) + 1) * ((nsz (d + 1) : Nat) : Int)) := by rw [em2]; simp only [InK]; omega
    have i3 : InK .u64 ((base : Int) + (x : Int) * ((nsz (d + 1) : Nat) : Int)) := by rw [em1]; simp only [InK]; omega
    have i4 : InK .u64 ((base : Int) + ((x : Int) + 1) * ((nsz (d + 1) : Nat) : Int)) := by rw [em2]; simp only [InK]; omega
    clear e1 em1 em2 h64 hdig
    refine V_skip ?_
    refine then_normal ?_
    refine V_seq ?_
    refine V_region ?_
    (apply Ops_q; (case hon => (exact Va)); (case hd => rfl); (case hq => exact Yl_move rfl))
    (apply Ops_q; (case hon => (exact Va)); (case hd => rfl); (case hq => exact YlA))
    (apply Ops_q; (case hon => (exact Va)); (case hd => rfl); (case hq => exact YlA))
    (apply Ops_q; (case hon => (exact Va)); (case hd => rfl); (case hq => exact YlA))
    rw [es]
    repeat (first | refine Vx ?_ | (apply Ops_q; (case hon => exact Va); (case hd => rfl); (case hq => exact YlA)) | refine Vr ?_ | refine Vt ?_ | refine Vf ?_ | refine Vm ?_ | refine Ve ?_ | refine Vo ?_ | refine Vz ?_ | refine Vn ?_)
    rw [el, eh]
    refine ret2 (by first | exact .inl rfl | exact .inr rfl) rfl rfl rfl ?_
    exact Ret_mk rfl (Ext.refl _)
end Go.Proofs.Ytjpnaofoeeegeaa

/-
  Stride tables (layer 8): the reference's uniform and Build.
  Conditions: the table's addresses are below 2^32, its length is one that a machine holds.
-/
namespace Go.Proofs.Ytjpnaofoeeegeaa
open Go.RowKit

/-- The list of bounds below 2^32. -/
structure BndL (T : List En) (D : List Int) : Prop where
  mem : ∀ x, x ∈ D ↔ (x = 0 ∨ x ∈ words T) ∧ x ≠ 4294967296
  rng : ∀ x ∈ D, 0 ≤ x ∧ x < 4294967296
theorem flat_bounds {T : List En} {D : List Int} (hB : BndL T D) (hv : ∀ e ∈ T, e.p.valid = true) {lo hi : Nat} (h32 : hi ≤ 4294967296) (h : ∀ n : Nat, (n : Int) ∈ D → lo < n → n < hi → lk T n = lk T lo) : Flat (lk T) lo hi := by
  refine flat_on (D := D.map Int.toNat) (fun a h1 h2 h3 => ?_) (fun a ha h1 h2 => ?_)
  · refine lk_const hv (Nat.sub_le _ _) fun b hb hba => ?_
    have : b ≠ (a : Int) := fun e => h3 (List.mem_map.2 ⟨b, (hB.mem b).2 ⟨.inr hb, by omega⟩, by omega⟩)
    omega
  · obtain ⟨x, hx, rfl⟩ := List.mem_map.1 ha
    have := (hB.rng x hx).1
    exact h _ (by rw [Int.toNat_of_nonneg this]; exact hx) h1 h2
set_option maxHeartbeats 1000000 in
theorem uniformR_v (ao : Option Addr) (T : List En) (c : Nat) (bo : Option Addr) (D : List Int) (cd lo hi : Nat) (w : World) (hT : Ens w ao T) (ha : ∀ e ∈ T, e.p.a < 4294967296) (hn : T.length ≤ 1000000) (h0 : chk T = 0)
    (hD : Arr w 1 bo (D.map uc)) (hB : BndL T D) (hDn : D.length ≤ 4294967296) (hlo : lo < 4294967296) (h32 : hi ≤ 4294967296) :
    Calls Try.prog 49 #[.slice ao T.length c, .slice bo D.length cd, .int .u64 lo, .int .u64 hi] w (Ret (.bool (flat (lk T) lo hi)) w) := by
  have hv : ∀ e ∈ T, e.p.valid = true := fun e he => ((chk_iff.1 h0).2.ok e he).1
  have hlk : ∀ a, lkT T a = lk T a := fun a => by rw [lkT, if_pos h0]
  refine V_enter (vs := [_, _, _, _]) Try.func49 rfl Try.ntmps49 (Nat.le_of_ble_eq_true rfl) ?_
  repeat (first | refine Vx ?_ | (apply Ops_q; (case hon => exact Va); (case hd => rfl); (case hq => exact YlA)) | refine Vr ?_ | refine Vt ?_ | refine Vf ?_ | refine Vm ?_ | refine Ve ?_ | refine Vo ?_ | refine Vz ?_ | refine Vn ?_)
  refine V_loop (fun k : Nat => [(13, .int .i64 k), (12, .int .i64 D.length), (11, .slice bo D.length cd), (0, .slice ao T.length c), (2, .int .u64 lo), (3, .int .u64 hi)])
    (fun k w' => w' = w ∧ k ≤ D.length ∧ ∀ n : Nat, (n : Int) ∈ D.take k → lo < n → n < hi → lk T n = lk T lo) (fun k => D.length - k) 0 (by repeat (first | exact trivial | refine ⟨rfl, ?_⟩)) ⟨rfl, Nat.zero_le _, fun n h => nomatch h⟩ ?_
  rintro k w1 ⟨rfl, hk, hs⟩
  repeat (first | refine Vx ?_ | (apply Ops_q; (case hon => exact Va); (case hd => rfl); (case hq => exact YlA)) | refine Vr ?_ | refine Vt ?_ | refine Vf ?_ | refine Vm ?_ | refine Ve ?_ | refine Vo ?_ | refine Vz ?_ | refine Vn ?_)
  refine V_cond rfl (fun hg => ?_) (fun hg => ?_)
  · have hkl : k < D.length := by have := of_decide_eq_true hg; omega
    clear hg
    obtain ⟨xi, hx⟩ : ∃ x, D[k]? = some x := ⟨_, List.getElem?_eq_getElem hkl⟩
    obtain ⟨x, rfl⟩ : ∃ x : Nat, xi = x := ⟨xi.toNat, by have := (hB.rng xi (List.mem_of_getElem? hx)).1; omega⟩
    have hxn : x < 4294967296 := by have := (hB.rng _ (List.mem_of_getElem? hx)).2; omega
    obtain ⟨ad, rfl, hc⟩ := hD k (uc x) (by rw [List.getElem?_map, hx]; rfl)
    have hc1 : w1.cell? (ad.add (k * 1)) = some (.int .u64 x) := by
      have := hc 0 _ rfl
      rw [add_add, Nat.add_zero] at this; exact this
    have hmem := List.mem_of_getElem? hx
    have hnext : (lo < x → x < hi → lk T x = lk T lo) → ∀ n : Nat, (n : Int) ∈ D.take (k + 1) → lo < n → n < hi → lk T n = lk T lo := fun h n hn' h1 h2 => by
      rw [List.take_add_one, hx, List.mem_append] at hn'
      rcases hn' with h3 | h3
      · exact hs n h3 h1 h2
      · simp at h3
        obtain rfl : n = x := by omega
        exact h h1 h2
    repeat (first | refine Vx ?_ | (apply Ops_q; (case hon => exact Va); (case hd => rfl); (case hq => exact YlA)) | refine Vr ?_ | refine Vt ?_ | refine Vf ?_ | refine Vm ?_ | refine Ve ?_ | refine Vo ?_ | refine Vz ?_ | refine Vn ?_)
    (apply Ops_q; (case hon => (exact Va)); (case hd => rfl); (case hq => exact Yl_indexS (j := k) rfl rfl (by omega)))
    repeat (first | refine Vx ?_ | (apply Ops_q; (case hon => exact Va); (case hd => rfl); (case hq => exact YlA)) | refine Vr ?_ | refine Vt ?_ | refine Vf ?_ | refine Vm ?_ | refine Ve ?_ | refine Vo ?_ | refine Vz ?_ | refine Vn ?_)
    by_cases t1 : lo < x
    · have d1 : decide ((lo : Int) < (x : Int)) = true := decide_eq_true (by omega)
      refine Ops_know rfl rfl d1 ?_
      repeat (first | refine Vx ?_ | (apply Ops_q; (case hon => exact Va); (case hd => rfl); (case hq => exact YlA)) | refine Vr ?_ | refine Vt ?_ | refine Vf ?_ | refine Vm ?_ | refine Ve ?_ | refine Vo ?_ | refine Vz ?_ | refine Vn ?_)
      by_cases t2 : x < hi
      · have d2 : decide ((x : Int) < (hi : Int)) = true := decide_eq_true (by omega)
        refine Ops_know rfl rfl d2 ?_
        repeat (first | refine Vx ?_ | (apply Ops_q; (case hon => exact Va); (case hd => rfl); (case hq => exact YlA)) | refine Vr ?_ | refine Vt ?_ | refine Vf ?_ | refine Vm ?_ | refine Ve ?_ | refine Vo ?_ | refine Vz ?_ | refine Vn ?_)
        (apply Ops_q; (case hon => (exact Va)); (case hd => rfl); (case hq => exact Yl_call rfl (fun w_ e_ => lookupR_v ao T c x w_ (hT.ext e_) ha hn hxn)))
        repeat (first | refine Vx ?_ | (apply Ops_q; (case hon => exact Va); (case hd => rfl); (case hq => exact YlA)) | refine Vr ?_ | refine Vt ?_ | refine Vf ?_ | refine Vm ?_ | refine Ve ?_ | refine Vo ?_ | refine Vz ?_ | refine Vn ?_)
        (apply Ops_q; (case hon => (exact Va)); (case hd => rfl); (case hq => exact Yl_call rfl (fun w_ e_ => lookupR_v ao T c lo w_ (hT.ext e_) ha hn hlo)))
        rw [hlk, hlk]
        repeat (first | refine Vx ?_ | (apply Ops_q; (case hon => exact Va); (case hd => rfl); (case hq => exact YlA)) | refine Vr ?_ | refine Vt ?_ | refine Vf ?_ | refine Vm ?_ | refine Ve ?_ | refine Vo ?_ | refine Vz ?_ | refine Vn ?_)
        by_cases t3 : lk T x = lk T lo
        · have d3 : (!decide (lk T x = lk T lo)) = false := by rw [decide_eq_true t3]; rfl
          refine V_no rfl d3 ?_
          repeat (first | refine Vx ?_ | (apply Ops_q; (case hon => exact Va); (case hd => rfl); (case hq => exact YlA)) | refine Vr ?_ | refine Vt ?_ | refine Vf ?_ | refine Vm ?_ | refine Ve ?_ | refine Vo ?_ | refine Vz ?_ | refine Vn ?_)
          exact ⟨k + 1, (by repeat (first | exact trivial | refine ⟨rfl, ?_⟩)), ⟨rfl, hkl, hnext (fun _ _ => t3)⟩, by omega⟩
        · have d3 : (!decide (lk T x = lk T lo)) = true := by rw [decide_eq_false t3]; rfl
          refine V_yes rfl d3 ?_
          repeat (first | refine Vx ?_ | (apply Ops_q; (case hon => exact Va); (case hd => rfl); (case hq => exact YlA)) | refine Vr ?_ | refine Vt ?_ | refine Vf ?_ | refine Vm ?_ | refine Ve ?_ | refine Vo ?_ | refine Vz ?_ | refine Vn ?_)
          refine ret1 (by first | exact .inl rfl | exact .inr rfl) rfl rfl ?_
          refine Ret_mk ?_ (Ext.refl _)
          have : flat (lk T) lo hi = false := Bool.eq_false_iff.2 fun h => t3 (flat_iff.1 h x (Nat.le_of_lt t1) t2)
          rw [this]
      · have d2 : decide ((x : Int) < (hi : Int)) = false := decide_eq_false (by omega)
        refine Ops_know rfl rfl d2 ?_
        repeat (first | refine Vx ?_ | (apply Ops_q; (case hon => exact Va); (case hd => rfl); (case hq => exact YlA)) | refine Vr ?_ | refine Vt ?_ | refine Vf ?_ | refine Vm ?_ | refine Ve ?_ | refine Vo ?_ | refine Vz ?_ | refine Vn ?_)
        exact ⟨k + 1, (by repeat (first | exact trivial | refine ⟨rfl, ?_⟩)), ⟨rfl, hkl, hnext (fun _ h => absurd h t2)⟩, by omega⟩
    · have d1 : decide ((lo : Int) < (x : Int)) = false := decide_eq_false (by omega)
      refine Ops_know rfl rfl d1 ?_
      repeat (first | refine Vx ?_ | (apply Ops_q; (case hon => exact Va); (case hd => rfl); (case hq => exact YlA)) | refine Vr ?_ | refine Vt ?_ | refine Vf ?_ | refine Vm ?_ | refine Ve ?_ | refine Vo ?_ | refine Vz ?_ | refine Vn ?_)
      exact ⟨k + 1, (by repeat (first | exact trivial | refine ⟨rfl, ?_⟩)), ⟨rfl, hkl, hnext (fun h _ => absurd h t1)⟩, by omega⟩
  · obtain rfl : k = D.length := by have := of_decide_eq_false hg; omega
    rw [List.take_length] at hs
    repeat (first | refine Vx ?_ | (apply Ops_q; (case hon => exact Va); (case hd => rfl); (case hq => exact YlA)) | refine Vr ?_ | refine Vt ?_ | refine Vf ?_ | refine Vm ?_ | refine Ve ?_ | refine Vo ?_ | refine Vz ?_ | refine Vn ?_)
    refine ret1 (by first | exact .inl rfl | exact .inr rfl) rfl rfl ?_
    exact Ret_mk (by rw [flat_iff.2 (flat_bounds hB hv h32 hs)]) (Ext.refl _)
end Go.Proofs.Ytjpnaofoeeegeaa

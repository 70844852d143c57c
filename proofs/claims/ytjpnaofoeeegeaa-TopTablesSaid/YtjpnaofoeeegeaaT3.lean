/-
  Part 3 of the texts that the proof of this claim leans on: rules of a walk, contracts of functions, plain facts. Each piece says below what it proves.
  No conditions beyond those that each lemma states.
-/
import Derived.Test.YtjpnaofoeeegeaaT2
import Derived.Lib.BitFns
import Derived.Laws.OwnMore
import Derived.Laws.Slices
import Derived.Maps.RangeRun

/-
  Sorting words (slices.Sort at uint64): partition, partitionEqual.
  Conditions: the list is one's own, and not too long for a machine.
-/
namespace Go.Proofs.Ytjpnaofoeeegeaa
open Go.RowKit

theorem V_meetB {P : Program} {N : Fr} {Q : Exit → Env → World → Prop} {m : Env} {w : World} {id : Nat} {x y : Code} {σ : Type} (e : σ → Env) (I : σ → World → Prop)
    (h1 : V P N x (blockV id (thenV (fun m' w' => ∃ s, Sub (e s) m' ∧ I s w') Q)) m w) (h2 : ∀ s w', I s w' → V P N y Q (e s) w') : V P N x (blockV id (thenV (fun m w => V P N y Q m w) Q)) m w := by
  have hm : ∀ ex m1 w1, thenV (fun m' w' => ∃ s, Sub (e s) m' ∧ I s w') Q ex m1 w1 → thenV (fun m w => V P N y Q m w) Q ex m1 w1 := fun ex m1 w1 hq => by
    cases ex with
    | normal => obtain ⟨s, hs, hI⟩ := hq; exact V_sub hs (h2 s w1 hI)
    | _ => exact hq
  refine V_mono (fun ex m1 w1 hq => ?_) h1
  cases ex with
  | exit id' =>
    by_cases c : id' = id
    · subst c; simp only [blockV, if_true] at hq ⊢; exact hm _ _ _ hq
    · simp only [blockV, c, if_false] at hq ⊢; exact hm _ _ _ hq
  | _ => simp only [blockV] at hq ⊢; exact hm _ _ _ hq
section
variable {base g n cap : Nat}
set_option maxHeartbeats 2000000 in
theorem partU_v (L : List Int) (a b p0 : Nat) (w : World) (hD : DatU w base g n cap L) (hn : n ≤ 1000000000000) (hb : b ≤ n) (hab : a < b) (hp0 : a ≤ p0 ∧ p0 < b) :
    Calls Try.prog 118 #[.slice (some ⟨g, 0, none⟩) n cap, .int .i64 a, .int .i64 b, .int .i64 p0] w
      (Does (BlkU g) (DatV base g n cap (fun r L' => ∃ (j : Nat) (o : Bool), r = .tuple #[.int .i64 j, .bool o] ∧ a ≤ j ∧ j < b ∧ Moved L L' a b ∧ Below2 ltU L' a j j b ∧ Below2 ltU L' a (j + 1) (j + 1) b)) w) := by
  obtain ⟨z, hbz⟩ : ∃ z, z + 1 = b := ⟨b - 1, by omega⟩
  have hz : (b : Int) - 1 = (z : Int) := by omega
  have hMl := hD.len
  obtain ⟨x, hx⟩ := hD.get (k := a) (by omega)
  obtain ⟨y, hy⟩ := hD.get (k := p0) (by omega)
  have hcx := hD.at hx
  have hcy := hD.at hy
  have m3 : Mod (BlkU g) w w := .of_ext (Ext.refl _)
  refine V_enter (vs := [_, _, _, _]) Try.func118 rfl Try.ntmps118 (Nat.le_of_ble_eq_true rfl) ?_
  repeat (first | refine Vx ?_ | (apply Ops_q; (case hon => exact Va); (case hd => rfl); (case hq => exact YlA)) | refine Vt ?_ | refine Vf ?_ | refine Vm ?_ | refine Ve ?_ | refine Vo ?_ | refine Vz ?_ | refine Vn ?_)
  refine V_store (R := fun w' => DatU w' base g n cap (L.set (a) y) ∧ Mod (fun c => c = g) w w') 14 13 (fun _ _ he h => ⟨h.1.ext he, h.2.ext he⟩) (by kernel_rfl) rfl (by kernel_rfl) ?_
  repeat (first
    | (refine YsS.pure rfl rfl rfl rfl rfl (fun w_ => (by first | exact Yl_move rfl | exact Yl_pred rfl rfl (by omega) | exact Yl_arith_in rfl rfl rfl (by first | assumption | (simp only [InK]; omega)))) ?_)
    | (refine YsS.load rfl rfl rfl rfl rfl (by first | exact Yl_load rfl hcx | exact Yl_load rfl hcy) ?_))
  refine YsS.pure rfl rfl rfl rfl rfl (fun w_ => Yl_indexS (j := (p0)) rfl rfl (by omega)) ?_
  repeat (first
    | (refine YsS.pure rfl rfl rfl rfl rfl (fun w_ => (by first | exact Yl_move rfl | exact Yl_pred rfl rfl (by omega) | exact Yl_arith_in rfl rfl rfl (by first | assumption | (simp only [InK]; omega)))) ?_)
    | (refine YsS.load rfl rfl rfl rfl rfl (by first | exact Yl_load rfl hcx | exact Yl_load rfl hcy) ?_))
  refine YsS.pure rfl rfl rfl rfl rfl (fun w_ => Yl_indexS (j := (a)) rfl rfl (by omega)) ?_
  repeat (first
    | (refine YsS.pure rfl rfl rfl rfl rfl (fun w_ => (by first | exact Yl_move rfl | exact Yl_pred rfl rfl (by omega) | exact Yl_arith_in rfl rfl rfl (by first | assumption | (simp only [InK]; omega)))) ?_)
    | (refine YsS.load rfl rfl rfl rfl rfl (by first | exact Yl_load rfl hcx | exact Yl_load rfl hcy) ?_))
  refine YsS.pure rfl rfl rfl rfl rfl (fun w_ => Yl_indexS (j := (a)) rfl rfl (by omega)) ?_
  refine YsS.nil rfl ⟨fun a_ ag_ w_ hw_ => storeDatU_run (i := a) (v := y) rfl rfl rfl hD (by omega) a_ ag_ w_ hw_, ?_⟩
  repeat (first
    | (refine YsS.pure rfl rfl rfl rfl rfl (fun w_ => (by first | exact Yl_move rfl | exact Yl_pred rfl rfl (by omega) | exact Yl_arith_in rfl rfl rfl (by first | assumption | (simp only [InK]; omega)))) ?_)
    | (refine YsS.load rfl rfl rfl rfl rfl (by first | exact Yl_load rfl hcx | exact Yl_load rfl hcy) ?_))
  refine YsS.nil rfl ?_
  rintro w4 ⟨D4, m4⟩
  repeat (first | refine Vx ?_ | (apply Ops_q; (case hon => exact Va); (case hd => rfl); (case hq => exact YlA)) | refine Vr ?_ | refine Vt ?_ | refine Vf ?_ | refine Vm ?_ | refine Ve ?_ | refine Vo ?_ | refine Vz ?_ | refine Vn ?_)
  (apply Ops_q; (case hon => (exact Va)); (case hd => rfl); (case hq => exact Yl_indexS (j := (p0)) rfl rfl (by omega)))
  repeat (first | refine Vx ?_ | (apply Ops_q; (case hon => exact Va); (case hd => rfl); (case hq => exact YlA)) | refine Vr ?_ | refine Vt ?_ | refine Vf ?_ | refine Vm ?_ | refine Ve ?_ | refine Vo ?_ | refine Vz ?_ | refine Vn ?_)
  refine Ops_storeDatU (i := p0) (v := x) (by exact Va) rfl rfl rfl D4 (by omega) ?_
  intro w5 D5 g5
  have m5 : Mod (BlkU g) w w5 := (m3.trans m4).grow g5 (fun b hb => .inl (by cases hb; rfl))
  have hsw : (L.set (a) y).set (p0) x = swp L (a) (p0) := by unfold swp; rw [hx, hy]
  rw [hsw] at D5
  have hM : Moved L (swp L a p0) a b := Moved.swp (by omega) hp0 (by omega)
  have hpv : (swp L a p0)[a]? = some y := by
    rw [swp_get (by omega) (by omega)]
    by_cases e : a = p0
    · rw [if_pos e, e]; exact hy
    · rw [if_neg e, if_pos rfl]; exact hy
  generalize swp L a p0 = M at *
  clear hx hy hcx hcy D4 m4 g5 hsw m3 hD hMl
  have hMl := D5.len
  repeat (first | refine Vx ?_ | (apply Ops_q; (case hon => exact Va); (case hd => rfl); (case hq => exact YlA)) | refine Vr ?_ | refine Vt ?_ | refine Vf ?_ | refine Vm ?_ | refine Ve ?_ | refine Vo ?_ | refine Vz ?_ | refine Vn ?_)
  obtain ⟨pv, hpve⟩ : ∃ pv, pv = y := ⟨_, rfl⟩
  rw [← hpve] at hpv
  clear hpve hp0
  have hP : PtS (fun x => ltU x pv < 0) (fun x => ¬ltU x pv < 0) M a (a + 1) z b := .start hbz
  obtain ⟨i, hi⟩ : ∃ i, i = a + 1 := ⟨_, rfl⟩
  obtain ⟨j, hj⟩ : ∃ j, j = z := ⟨_, rfl⟩
  have hjb : j < b := by omega
  rw [← hi, ← hj] at hP
  have h1 : a + 1 ≤ i := by omega
  have h2 : i ≤ j + 1 := by omega
  rw [show (a : Int) + 1 = (i : Int) by omega, show (b : Int) - 1 = (j : Int) by omega]
  clear hi hj hz
  obtain ⟨w3, rfl⟩ : ∃ w3, w3 = w5 := ⟨_, rfl⟩
  have D3 := D5
  have m3 := m5
  clear D5 m5
  refine V_meetB (fun s : Nat => [(10, .int .i64 s), (11, .int .i64 j), (0, .slice (some ⟨g, 0, none⟩) n cap), (1, .int .i64 a)])
    (fun s w' => Ext w3 w' ∧ i ≤ s ∧ s ≤ j + 1 ∧ PtS (fun x => ltU x pv < 0) (fun x => ¬ltU x pv < 0) M a s j b ∧ ∀ x, s ≤ j → M[s]? = some x → ¬ltU x pv < 0) ?_ ?_
  · refine V_loop (fun s : Nat => [(10, .int .i64 s), (11, .int .i64 j), (0, .slice (some ⟨g, 0, none⟩) n cap), (1, .int .i64 a)])
      (fun s w' => Ext w3 w' ∧ i ≤ s ∧ s ≤ j + 1 ∧ PtS (fun x => ltU x pv < 0) (fun x => ¬ltU x pv < 0) M a s j b) (fun s => j + 1 - s) i (by repeat (first | exact trivial | refine ⟨rfl, ?_⟩)) ⟨Ext.refl _, Nat.le_refl _, h2, hP⟩ ?_
    rintro s w4 ⟨x4, h4, h5, hP4⟩
    have D4 := D3.ext x4
    by_cases hsj : s ≤ j
    · have hd : decide ((s : Int) ≤ (j : Int)) = true := decide_eq_true (by omega)
      obtain ⟨x, hx⟩ := D4.get (k := s) (by omega)
      have hcx := D4.at hx
      have hcp := D4.at hpv
      repeat (first | refine Vx ?_ | (apply Ops_q; (case hon => exact Va); (case hd => rfl); (case hq => exact YlA)) | refine Vr ?_ | refine Vt ?_ | refine Vf ?_ | refine Vm ?_ | refine Ve ?_ | refine Vo ?_ | refine Vz ?_ | refine Vn ?_)
      refine Ops_know rfl rfl hd ?_
      repeat (first | refine Vx ?_ | (apply Ops_q; (case hon => exact Va); (case hd => rfl); (case hq => exact YlA)) | refine Vr ?_ | refine Vt ?_ | refine Vf ?_ | refine Vm ?_ | refine Ve ?_ | refine Vo ?_ | refine Vz ?_ | refine Vn ?_)
      (apply Ops_q; (case hon => (exact Va)); (case hd => rfl); (case hq => exact Yl_indexS (j := s) rfl rfl (by omega)))
      repeat (first | refine Vx ?_ | (apply Ops_q; (case hon => exact Va); (case hd => rfl); (case hq => exact YlA)) | refine Vr ?_ | refine Vt ?_ | refine Vf ?_ | refine Vm ?_ | refine Ve ?_ | refine Vo ?_ | refine Vz ?_ | refine Vn ?_)
      (apply Ops_q; (case hon => (exact Va)); (case hd => rfl); (case hq => exact Yl_indexS (j := a) rfl rfl (by omega)))
      repeat (first | refine Vx ?_ | (apply Ops_q; (case hon => exact Va); (case hd => rfl); (case hq => exact YlA)) | refine Vr ?_ | refine Vt ?_ | refine Vf ?_ | refine Vm ?_ | refine Ve ?_ | refine Vo ?_ | refine Vz ?_ | refine Vn ?_)
      (apply Ops_q; (case hon => (exact Va)); (case hd => rfl); (case hq => exact Yl_call rfl (fun w_ e_ => lessU_v x pv w_)))
      repeat (first | refine Vx ?_ | (apply Ops_q; (case hon => exact Va); (case hd => rfl); (case hq => exact YlA)) | refine Vr ?_ | refine Vt ?_ | refine Vf ?_ | refine Vm ?_ | refine Ve ?_ | refine Vo ?_ | refine Vz ?_ | refine Vn ?_)
      refine V_cond rfl (fun hlt => ?_) (fun hlt => ?_)
      · repeat (first | refine Vx ?_ | (apply Ops_q; (case hon => exact Va); (case hd => rfl); (case hq => exact YlA)) | refine Vr ?_ | refine Vt ?_ | refine Vf ?_ | refine Vm ?_ | refine Ve ?_ | refine Vo ?_ | refine Vz ?_ | refine Vn ?_)
        exact ⟨s + 1, (by repeat (first | exact trivial | refine ⟨rfl, ?_⟩)), ⟨x4, by omega, by omega, hP4.inc hx (by have h := hlt; simp at h; simp only [ltU]; omega)⟩, by omega⟩
      · repeat (first | refine Vx ?_ | (apply Ops_q; (case hon => exact Va); (case hd => rfl); (case hq => exact YlA)) | refine Vr ?_ | refine Vt ?_ | refine Vf ?_ | refine Vm ?_ | refine Ve ?_ | refine Vo ?_ | refine Vz ?_ | refine Vn ?_)
        exact ⟨s, (by repeat (first | exact trivial | refine ⟨rfl, ?_⟩)), x4, h4, h5, hP4, fun z _ hz => by rw [hx] at hz; cases hz; have h := hlt; simp at h; simp only [ltU]; omega⟩
    · have hd : decide ((s : Int) ≤ (j : Int)) = false := decide_eq_false (by omega)
      repeat (first | refine Vx ?_ | (apply Ops_q; (case hon => exact Va); (case hd => rfl); (case hq => exact YlA)) | refine Vr ?_ | refine Vt ?_ | refine Vf ?_ | refine Vm ?_ | refine Ve ?_ | refine Vo ?_ | refine Vz ?_ | refine Vn ?_)
      refine Ops_know rfl rfl hd ?_
      repeat (first | refine Vx ?_ | (apply Ops_q; (case hon => exact Va); (case hd => rfl); (case hq => exact YlA)) | refine Vr ?_ | refine Vt ?_ | refine Vf ?_ | refine Vm ?_ | refine Ve ?_ | refine Vo ?_ | refine Vz ?_ | refine Vn ?_)
      exact ⟨s, (by repeat (first | exact trivial | refine ⟨rfl, ?_⟩)), x4, h4, h5, hP4, fun z h => absurd h hsj⟩
  clear h2 hP
  rintro i w3 ⟨x3, hii, h2, hP, hup⟩
  have D3 := D3.ext x3
  have m3 := m3.ext x3
  replace h1 : a + 1 ≤ i := by omega
  clear x3
  refine V_seq ?_
  refine V_block ?_
  refine V_meetB (fun s : Nat => [(10, .int .i64 i), (11, .int .i64 s), (0, .slice (some ⟨g, 0, none⟩) n cap), (1, .int .i64 a)])
    (fun s w' => Ext w3 w' ∧ i ≤ s + 1 ∧ s ≤ j ∧ PtS (fun x => ltU x pv < 0) (fun x => ¬ltU x pv < 0) M a i s b ∧ ∀ x, i ≤ s → M[s]? = some x → ltU x pv < 0) ?_ ?_
  · refine V_loop (fun s : Nat => [(10, .int .i64 i), (11, .int .i64 s), (0, .slice (some ⟨g, 0, none⟩) n cap), (1, .int .i64 a)])
      (fun s w' => Ext w3 w' ∧ i ≤ s + 1 ∧ s ≤ j ∧ PtS (fun x => ltU x pv < 0) (fun x => ¬ltU x pv < 0) M a i s b) (fun s => s) j (by repeat (first | exact trivial | refine ⟨rfl, ?_⟩)) ⟨Ext.refl _, h2, Nat.le_refl _, hP⟩ ?_
    rintro s w4 ⟨x4, h4, h5, hP4⟩
    have D4 := D3.ext x4
    by_cases hsj : i ≤ s
    · obtain ⟨p, rfl⟩ : ∃ p, s = p + 1 := ⟨s - 1, by omega⟩
      have hs1 : ((p + 1 : Nat) : Int) - 1 = (p : Int) := by omega
      have hd : decide ((i : Int) ≤ ((p + 1 : Nat) : Int)) = true := decide_eq_true (by omega)
      obtain ⟨x, hx⟩ := D4.get (k := p + 1) (by omega)
      have hcx := D4.at hx
      have hcp := D4.at hpv
      repeat (first | refine Vx ?_ | (apply Ops_q; (case hon => exact Va); (case hd => rfl); (case hq => exact YlA)) | refine Vr ?_ | refine Vt ?_ | refine Vf ?_ | refine Vm ?_ | refine Ve ?_ | refine Vo ?_ | refine Vz ?_ | refine Vn ?_)
      refine Ops_know rfl rfl hd ?_
      repeat (first | refine Vx ?_ | (apply Ops_q; (case hon => exact Va); (case hd => rfl); (case hq => exact YlA)) | refine Vr ?_ | refine Vt ?_ | refine Vf ?_ | refine Vm ?_ | refine Ve ?_ | refine Vo ?_ | refine Vz ?_ | refine Vn ?_)
      (apply Ops_q; (case hon => (exact Va)); (case hd => rfl); (case hq => exact Yl_indexS (j := (p+1)) rfl rfl (by omega)))
      repeat (first | refine Vx ?_ | (apply Ops_q; (case hon => exact Va); (case hd => rfl); (case hq => exact YlA)) | refine Vr ?_ | refine Vt ?_ | refine Vf ?_ | refine Vm ?_ | refine Ve ?_ | refine Vo ?_ | refine Vz ?_ | refine Vn ?_)
      (apply Ops_q; (case hon => (exact Va)); (case hd => rfl); (case hq => exact Yl_indexS (j := a) rfl rfl (by omega)))
      repeat (first | refine Vx ?_ | (apply Ops_q; (case hon => exact Va); (case hd => rfl); (case hq => exact YlA)) | refine Vr ?_ | refine Vt ?_ | refine Vf ?_ | refine Vm ?_ | refine Ve ?_ | refine Vo ?_ | refine Vz ?_ | refine Vn ?_)
      (apply Ops_q; (case hon => (exact Va)); (case hd => rfl); (case hq => exact Yl_call rfl (fun w_ e_ => lessU_v x pv w_)))
      repeat (first | refine Vx ?_ | (apply Ops_q; (case hon => exact Va); (case hd => rfl); (case hq => exact YlA)) | refine Vr ?_ | refine Vt ?_ | refine Vf ?_ | refine Vm ?_ | refine Ve ?_ | refine Vo ?_ | refine Vz ?_ | refine Vn ?_)
      refine V_cond rfl (fun hlt => ?_) (fun hlt => ?_)
      · repeat (first | refine Vx ?_ | (apply Ops_q; (case hon => exact Va); (case hd => rfl); (case hq => exact YlA)) | refine Vr ?_ | refine Vt ?_ | refine Vf ?_ | refine Vm ?_ | refine Ve ?_ | refine Vo ?_ | refine Vz ?_ | refine Vn ?_)
        rw [hs1]
        exact ⟨p, (by repeat (first | exact trivial | refine ⟨rfl, ?_⟩)), ⟨x4, hsj, by omega, hP4.dec hx (by have h := hlt; simp at h; simp only [ltU]; omega)⟩, by omega⟩
      · repeat (first | refine Vx ?_ | (apply Ops_q; (case hon => exact Va); (case hd => rfl); (case hq => exact YlA)) | refine Vr ?_ | refine Vt ?_ | refine Vf ?_ | refine Vm ?_ | refine Ve ?_ | refine Vo ?_ | refine Vz ?_ | refine Vn ?_)
        exact ⟨p + 1, (by repeat (first | exact trivial | refine ⟨rfl, ?_⟩)), x4, h4, h5, hP4, fun z _ hz => by rw [hx] at hz; cases hz; have h := hlt; simp at h; simp only [ltU]; omega⟩
    · have hd : decide ((i : Int) ≤ (s : Int)) = false := decide_eq_false (by omega)
      repeat (first | refine Vx ?_ | (apply Ops_q; (case hon => exact Va); (case hd => rfl); (case hq => exact YlA)) | refine Vr ?_ | refine Vt ?_ | refine Vf ?_ | refine Vm ?_ | refine Ve ?_ | refine Vo ?_ | refine Vz ?_ | refine Vn ?_)
      refine Ops_know rfl rfl hd ?_
      repeat (first | refine Vx ?_ | (apply Ops_q; (case hon => exact Va); (case hd => rfl); (case hq => exact YlA)) | refine Vr ?_ | refine Vt ?_ | refine Vf ?_ | refine Vm ?_ | refine Ve ?_ | refine Vo ?_ | refine Vz ?_ | refine Vn ?_)
      exact ⟨s, (by repeat (first | exact trivial | refine ⟨rfl, ?_⟩)), x4, h4, h5, hP4, fun z h => absurd h hsj⟩
  clear h2 hP
  rintro j w3 ⟨x3, h2, hjj, hP, hdown⟩
  have D3 := D3.ext x3
  have m3 := m3.ext x3
  replace hjb : j < b := by omega
  replace hup : ∀ x, i ≤ j → M[i]? = some x → ¬ltU x pv < 0 := fun x h => hup x (by omega)
  clear x3
  repeat (first | refine Vx ?_ | (apply Ops_q; (case hon => exact Va); (case hd => rfl); (case hq => exact YlA)) | refine Vr ?_ | refine Vt ?_ | refine Vf ?_ | refine Vm ?_ | refine Ve ?_ | refine Vo ?_ | refine Vz ?_ | refine Vn ?_)
  refine V_cond rfl (fun hg => ?_) (fun hg => ?_)
  · replace hg := of_decide_eq_true hg
    obtain rfl : i = j + 1 := by omega
    have hMl := D3.len
    obtain ⟨x, hx⟩ := D3.get (k := j) (by omega)
    obtain ⟨y, hy⟩ := D3.get (k := a) (by omega)
    have hcx := D3.at hx
    have hcy := D3.at hy
    repeat (first | refine Vx ?_ | (apply Ops_q; (case hon => exact Va); (case hd => rfl); (case hq => exact YlA)) | refine Vt ?_ | refine Vf ?_ | refine Vm ?_ | refine Ve ?_ | refine Vo ?_ | refine Vz ?_ | refine Vn ?_)
    refine V_store (R := fun w' => DatU w' base g n cap (M.set (j) y) ∧ Mod (fun c => c = g) w3 w') 14 13 (fun _ _ he h => ⟨h.1.ext he, h.2.ext he⟩) (by kernel_rfl) rfl (by kernel_rfl) ?_
    repeat (first
      | (refine YsS.pure rfl rfl rfl rfl rfl (fun w_ => (by first | exact Yl_move rfl | exact Yl_pred rfl rfl (by omega) | exact Yl_arith_in rfl rfl rfl (by first | assumption | (simp only [InK]; omega)))) ?_)
      | (refine YsS.load rfl rfl rfl rfl rfl (by first | exact Yl_load rfl hcx | exact Yl_load rfl hcy) ?_))
    refine YsS.pure rfl rfl rfl rfl rfl (fun w_ => Yl_indexS (j := (a)) rfl rfl (by omega)) ?_
    repeat (first
      | (refine YsS.pure rfl rfl rfl rfl rfl (fun w_ => (by first | exact Yl_move rfl | exact Yl_pred rfl rfl (by omega) | exact Yl_arith_in rfl rfl rfl (by first | assumption | (simp only [InK]; omega)))) ?_)
      | (refine YsS.load rfl rfl rfl rfl rfl (by first | exact Yl_load rfl hcx | exact Yl_load rfl hcy) ?_))
    refine YsS.pure rfl rfl rfl rfl rfl (fun w_ => Yl_indexS (j := (j)) rfl rfl (by omega)) ?_
    repeat (first
      | (refine YsS.pure rfl rfl rfl rfl rfl (fun w_ => (by first | exact Yl_move rfl | exact Yl_pred rfl rfl (by omega) | exact Yl_arith_in rfl rfl rfl (by first | assumption | (simp only [InK]; omega)))) ?_)
      | (refine YsS.load rfl rfl rfl rfl rfl (by first | exact Yl_load rfl hcx | exact Yl_load rfl hcy) ?_))
    refine YsS.pure rfl rfl rfl rfl rfl (fun w_ => Yl_indexS (j := (j)) rfl rfl (by omega)) ?_
    refine YsS.nil rfl ⟨fun a_ ag_ w_ hw_ => storeDatU_run (i := j) (v := y) rfl rfl rfl D3 (by omega) a_ ag_ w_ hw_, ?_⟩
    repeat (first
      | (refine YsS.pure rfl rfl rfl rfl rfl (fun w_ => (by first | exact Yl_move rfl | exact Yl_pred rfl rfl (by omega) | exact Yl_arith_in rfl rfl rfl (by first | assumption | (simp only [InK]; omega)))) ?_)
      | (refine YsS.load rfl rfl rfl rfl rfl (by first | exact Yl_load rfl hcx | exact Yl_load rfl hcy) ?_))
    refine YsS.nil rfl ?_
    rintro w4 ⟨D4, m4⟩
    repeat (first | refine Vx ?_ | (apply Ops_q; (case hon => exact Va); (case hd => rfl); (case hq => exact YlA)) | refine Vr ?_ | refine Vt ?_ | refine Vf ?_ | refine Vm ?_ | refine Ve ?_ | refine Vo ?_ | refine Vz ?_ | refine Vn ?_)
    (apply Ops_q; (case hon => (exact Va)); (case hd => rfl); (case hq => exact Yl_indexS (j := (a)) rfl rfl (by omega)))
    repeat (first | refine Vx ?_ | (apply Ops_q; (case hon => exact Va); (case hd => rfl); (case hq => exact YlA)) | refine Vr ?_ | refine Vt ?_ | refine Vf ?_ | refine Vm ?_ | refine Ve ?_ | refine Vo ?_ | refine Vz ?_ | refine Vn ?_)
    refine Ops_storeDatU (i := a) (v := x) (by exact Va) rfl rfl rfl D4 (by omega) ?_
    intro w5 D5 g5
    have m5 : Mod (BlkU g) w w5 := (m3.trans m4).grow g5 (fun b hb => .inl (by cases hb; rfl))
    have hsw : (M.set (j) y).set (a) x = swp M (j) (a) := by unfold swp; rw [hx, hy]
    rw [hsw] at D5
    have hM5 : Moved L (swp M j a) a b := hM.trans (Moved.swp (by omega) (by omega) (by omega))
    obtain ⟨q1, q2⟩ := part_end ordU hP hpv (by omega) (by omega)
    repeat (first | refine Vx ?_ | (apply Ops_q; (case hon => exact Va); (case hd => rfl); (case hq => exact YlA)) | refine Vr ?_ | refine Vt ?_ | refine Vf ?_ | refine Vm ?_ | refine Ve ?_ | refine Vo ?_ | refine Vz ?_ | refine Vn ?_)
    refine ret2 (by first | exact .inl rfl | exact .inr rfl) rfl rfl rfl ?_
    exact Does_mk (fun w' he => ⟨_, D5.ext he, ⟨j, _, rfl, by omega, hjb, hM5, q1, q2⟩⟩) m5
  replace hg := of_decide_eq_false hg
  have hMl := D3.len
  obtain ⟨p, rfl⟩ : ∃ p, j = p + 1 := ⟨j - 1, by omega⟩
  have hs1 : ((p + 1 : Nat) : Int) - 1 = (p : Int) := by omega
  obtain ⟨x, hx⟩ := D3.get (k := i) (by omega)
  obtain ⟨y, hy⟩ := D3.get (k := p + 1) (by omega)
  have hcx := D3.at hx
  have hcy := D3.at hy
  have hQx := hup x (by omega) hx
  have hPy := hdown y (by omega) hy
  have hij : i < p + 1 := by
    rcases Nat.lt_or_ge i (p + 1) with h | h
    · exact h
    · obtain rfl : i = p + 1 := by omega
      rw [hx] at hy; cases hy
      simp only [ltU] at hQx hPy; omega
  repeat (first | refine Vx ?_ | (apply Ops_q; (case hon => exact Va); (case hd => rfl); (case hq => exact YlA)) | refine Vt ?_ | refine Vf ?_ | refine Vm ?_ | refine Ve ?_ | refine Vo ?_ | refine Vz ?_ | refine Vn ?_)
  refine V_store (R := fun w' => DatU w' base g n cap (M.set (i) y) ∧ Mod (fun c => c = g) w3 w') 14 13 (fun _ _ he h => ⟨h.1.ext he, h.2.ext he⟩) (by kernel_rfl) rfl (by kernel_rfl) ?_
  repeat (first
    | (refine YsS.pure rfl rfl rfl rfl rfl (fun w_ => (by first | exact Yl_move rfl | exact Yl_pred rfl rfl (by omega) | exact Yl_arith_in rfl rfl rfl (by first | assumption | (simp only [InK]; omega)))) ?_)
    | (refine YsS.load rfl rfl rfl rfl rfl (by first | exact Yl_load rfl hcx | exact Yl_load rfl hcy) ?_))
  refine YsS.pure rfl rfl rfl rfl rfl (fun w_ => Yl_indexS (j := (p+1)) rfl rfl (by omega)) ?_
  repeat (first
    | (refine YsS.pure rfl rfl rfl rfl rfl (fun w_ => (by first | exact Yl_move rfl | exact Yl_pred rfl rfl (by omega) | exact Yl_arith_in rfl rfl rfl (by first | assumption | (simp only [InK]; omega)))) ?_)
    | (refine YsS.load rfl rfl rfl rfl rfl (by first | exact Yl_load rfl hcx | exact Yl_load rfl hcy) ?_))
  refine YsS.pure rfl rfl rfl rfl rfl (fun w_ => Yl_indexS (j := (i)) rfl rfl (by omega)) ?_
  repeat (first
    | (refine YsS.pure rfl rfl rfl rfl rfl (fun w_ => (by first | exact Yl_move rfl | exact Yl_pred rfl rfl (by omega) | exact Yl_arith_in rfl rfl rfl (by first | assumption | (simp only [InK]; omega)))) ?_)
    | (refine YsS.load rfl rfl rfl rfl rfl (by first | exact Yl_load rfl hcx | exact Yl_load rfl hcy) ?_))
  refine YsS.pure rfl rfl rfl rfl rfl (fun w_ => Yl_indexS (j := (i)) rfl rfl (by omega)) ?_
  refine YsS.nil rfl ⟨fun a_ ag_ w_ hw_ => storeDatU_run (i := i) (v := y) rfl rfl rfl D3 (by omega) a_ ag_ w_ hw_, ?_⟩
  repeat (first
    | (refine YsS.pure rfl rfl rfl rfl rfl (fun w_ => (by first | exact Yl_move rfl | exact Yl_pred rfl rfl (by omega) | exact Yl_arith_in rfl rfl rfl (by first | assumption | (simp only [InK]; omega)))) ?_)
    | (refine YsS.load rfl rfl rfl rfl rfl (by first | exact Yl_load rfl hcx | exact Yl_load rfl hcy) ?_))
  refine YsS.nil rfl ?_
  rintro w4 ⟨D4, m4⟩
  repeat (first | refine Vx ?_ | (apply Ops_q; (case hon => exact Va); (case hd => rfl); (case hq => exact YlA)) | refine Vr ?_ | refine Vt ?_ | refine Vf ?_ | refine Vm ?_ | refine Ve ?_ | refine Vo ?_ | refine Vz ?_ | refine Vn ?_)
  (apply Ops_q; (case hon => (exact Va)); (case hd => rfl); (case hq => exact Yl_indexS (j := (p+1)) rfl rfl (by omega)))
  repeat (first | refine Vx ?_ | (apply Ops_q; (case hon => exact Va); (case hd => rfl); (case hq => exact YlA)) | refine Vr ?_ | refine Vt ?_ | refine Vf ?_ | refine Vm ?_ | refine Ve ?_ | refine Vo ?_ | refine Vz ?_ | refine Vn ?_)
  refine Ops_storeDatU (i := p+1) (v := x) (by exact Va) rfl rfl rfl D4 (by omega) ?_
  intro w5 D5 g5
  have m5 : Mod (BlkU g) w w5 := (m3.trans m4).grow g5 (fun b hb => .inl (by cases hb; rfl))
  have hsw : (M.set (i) y).set (p+1) x = swp M (i) (p+1) := by unfold swp; rw [hx, hy]
  rw [hsw] at D5
  repeat (first | refine Vx ?_ | (apply Ops_q; (case hon => exact Va); (case hd => rfl); (case hq => exact YlA)) | refine Vr ?_ | refine Vt ?_ | refine Vf ?_ | refine Vm ?_ | refine Ve ?_ | refine Vo ?_ | refine Vz ?_ | refine Vn ?_)
  rw [hs1]
  have hP5 := hP.swap hij (by omega) hx hy hQx hPy
  have hM5 : Moved L (swp M i (p + 1)) a b := hM.trans (Moved.swp (by omega) (by omega) (by omega))
  have hpv5 : (swp M i (p + 1))[a]? = some pv := by rw [swp_get (by omega) (by omega), if_neg (by omega), if_neg (by omega)]; exact hpv
  have h1' : a + 1 ≤ i + 1 := by omega
  have h2' : i + 1 ≤ p + 1 := by omega
  have hjb' : p < b := by omega
  clear hx hy hcx hcy D3 m3 D4 m4 g5 hsw hM hMl hP hup hdown hQx hPy hpv h1 h2 hjb hg hs1 hij
  refine V_loop (fun s : Nat × Nat × List Int => [(10, .int .i64 s.1), (11, .int .i64 s.2.1), (0, .slice (some ⟨g, 0, none⟩) n cap), (1, .int .i64 a)])
    (fun s w' => a + 1 ≤ s.1 ∧ s.1 ≤ s.2.1 + 1 ∧ s.2.1 < b ∧ Mod (BlkU g) w w' ∧ DatU w' base g n cap s.2.2 ∧ Moved L s.2.2 a b ∧ s.2.2[a]? = some pv ∧ PtS (fun x => ltU x pv < 0) (fun x => ¬ltU x pv < 0) s.2.2 a s.1 s.2.1 b) (fun s => s.2.1 + 1 - s.1) (i + 1, p, swp M i (p + 1)) (by repeat (first | exact trivial | refine ⟨rfl, ?_⟩))
    ⟨h1', h2', hjb', m5, D5, hM5, hpv5, hP5⟩ ?_
  clear h1' h2' hjb' m5 D5 hM5 hpv5 hP5
  rintro ⟨i, j, M⟩ w3 ⟨h1, h2, hjb, m3, D3, hM, hpv, hP⟩
  dsimp only at h1 h2 hjb D3 hM hpv hP ⊢
  (repeat (first | refine V_seq ?_ | refine V_block ?_))
  refine V_meetB (fun s : Nat => [(10, .int .i64 s), (11, .int .i64 j), (0, .slice (some ⟨g, 0, none⟩) n cap), (1, .int .i64 a)])
    (fun s w' => Ext w3 w' ∧ i ≤ s ∧ s ≤ j + 1 ∧ PtS (fun x => ltU x pv < 0) (fun x => ¬ltU x pv < 0) M a s j b ∧ ∀ x, s ≤ j → M[s]? = some x → ¬ltU x pv < 0) ?_ ?_
  · refine V_loop (fun s : Nat => [(10, .int .i64 s), (11, .int .i64 j), (0, .slice (some ⟨g, 0, none⟩) n cap), (1, .int .i64 a)])
      (fun s w' => Ext w3 w' ∧ i ≤ s ∧ s ≤ j + 1 ∧ PtS (fun x => ltU x pv < 0) (fun x => ¬ltU x pv < 0) M a s j b) (fun s => j + 1 - s) i (by repeat (first | exact trivial | refine ⟨rfl, ?_⟩)) ⟨Ext.refl _, Nat.le_refl _, h2, hP⟩ ?_
    rintro s w4 ⟨x4, h4, h5, hP4⟩
    have D4 := D3.ext x4
    by_cases hsj : s ≤ j
    · have hd : decide ((s : Int) ≤ (j : Int)) = true := decide_eq_true (by omega)
      obtain ⟨x, hx⟩ := D4.get (k := s) (by omega)
      have hcx := D4.at hx
      have hcp := D4.at hpv
      repeat (first | refine Vx ?_ | (apply Ops_q; (case hon => exact Va); (case hd => rfl); (case hq => exact YlA)) | refine Vr ?_ | refine Vt ?_ | refine Vf ?_ | refine Vm ?_ | refine Ve ?_ | refine Vo ?_ | refine Vz ?_ | refine Vn ?_)
      refine Ops_know rfl rfl hd ?_
      repeat (first | refine Vx ?_ | (apply Ops_q; (case hon => exact Va); (case hd => rfl); (case hq => exact YlA)) | refine Vr ?_ | refine Vt ?_ | refine Vf ?_ | refine Vm ?_ | refine Ve ?_ | refine Vo ?_ | refine Vz ?_ | refine Vn ?_)
      (apply Ops_q; (case hon => (exact Va)); (case hd => rfl); (case hq => exact Yl_indexS (j := s) rfl rfl (by omega)))
      repeat (first | refine Vx ?_ | (apply Ops_q; (case hon => exact Va); (case hd => rfl); (case hq => exact YlA)) | refine Vr ?_ | refine Vt ?_ | refine Vf ?_ | refine Vm ?_ | refine Ve ?_ | refine Vo ?_ | refine Vz ?_ | refine Vn ?_)
      (apply Ops_q; (case hon => (exact Va)); (case hd => rfl); (case hq => exact Yl_indexS (j := a) rfl rfl (by omega)))
      repeat (first | refine Vx ?_ | (apply Ops_q; (case hon => exact Va); (case hd => rfl); (case hq => exact YlA)) | refine Vr ?_ | refine Vt ?_ | refine Vf ?_ | refine Vm ?_ | refine Ve ?_ | refine Vo ?_ | refine Vz ?_ | refine Vn ?_)
      (apply Ops_q; (case hon => (exact Va)); (case hd => rfl); (case hq => exact Yl_call rfl (fun w_ e_ => lessU_v x pv w_)))
      repeat (first | refine Vx ?_ | (apply Ops_q; (case hon => exact Va); (case hd => rfl); (case hq => exact YlA)) | refine Vr ?_ | refine Vt ?_ | refine Vf ?_ | refine Vm ?_ | refine Ve ?_ | refine Vo ?_ | refine Vz ?_ | refine Vn ?_)
      refine V_cond rfl (fun hlt => ?_) (fun hlt => ?_)
      · repeat (first | refine Vx ?_ | (apply Ops_q; (case hon => exact Va); (case hd => rfl); (case hq => exact YlA)) | refine Vr ?_ | refine Vt ?_ | refine Vf ?_ | refine Vm ?_ | refine Ve ?_ | refine Vo ?_ | refine Vz ?_ | refine Vn ?_)
        exact ⟨s + 1, (by repeat (first | exact trivial | refine ⟨rfl, ?_⟩)), ⟨x4, by omega, by omega, hP4.inc hx (by have h := hlt; simp at h; simp only [ltU]; omega)⟩, by omega⟩
      · repeat (first | refine Vx ?_ | (apply Ops_q; (case hon => exact Va); (case hd => rfl); (case hq => exact YlA)) | refine Vr ?_ | refine Vt ?_ | refine Vf ?_ | refine Vm ?_ | refine Ve ?_ | refine Vo ?_ | refine Vz ?_ | refine Vn ?_)
        exact ⟨s, (by repeat (first | exact trivial | refine ⟨rfl, ?_⟩)), x4, h4, h5, hP4, fun z _ hz => by rw [hx] at hz; cases hz; have h := hlt; simp at h; simp only [ltU]; omega⟩
    · have hd : decide ((s : Int) ≤ (j : Int)) = false := decide_eq_false (by omega)
      repeat (first | refine Vx ?_ | (apply Ops_q; (case hon => exact Va); (case hd => rfl); (case hq => exact YlA)) | refine Vr ?_ | refine Vt ?_ | refine Vf ?_ | refine Vm ?_ | refine Ve ?_ | refine Vo ?_ | refine Vz ?_ | refine Vn ?_)
      refine Ops_know rfl rfl hd ?_
      repeat (first | refine Vx ?_ | (apply Ops_q; (case hon => exact Va); (case hd => rfl); (case hq => exact YlA)) | refine Vr ?_ | refine Vt ?_ | refine Vf ?_ | refine Vm ?_ | refine Ve ?_ | refine Vo ?_ | refine Vz ?_ | refine Vn ?_)
      exact ⟨s, (by repeat (first | exact trivial | refine ⟨rfl, ?_⟩)), x4, h4, h5, hP4, fun z h => absurd h hsj⟩
  clear h2 hP
  rintro i w3 ⟨x3, hii, h2, hP, hup⟩
  have D3 := D3.ext x3
  have m3 := m3.ext x3
  replace h1 : a + 1 ≤ i := by omega
  clear x3
  refine V_seq ?_
  refine V_block ?_
  refine V_meetB (fun s : Nat => [(10, .int .i64 i), (11, .int .i64 s), (0, .slice (some ⟨g, 0, none⟩) n cap), (1, .int .i64 a)])
    (fun s w' => Ext w3 w' ∧ i ≤ s + 1 ∧ s ≤ j ∧ PtS (fun x => ltU x pv < 0) (fun x => ¬ltU x pv < 0) M a i s b ∧ ∀ x, i ≤ s → M[s]? = some x → ltU x pv < 0) ?_ ?_
  · refine V_loop (fun s : Nat => [(10, .int .i64 i), (11, .int .i64 s), (0, .slice (some ⟨g, 0, none⟩) n cap), (1, .int .i64 a)])
      (fun s w' => Ext w3 w' ∧ i ≤ s + 1 ∧ s ≤ j ∧ PtS (fun x => ltU x pv < 0) (fun x => ¬ltU x pv < 0) M a i s b) (fun s => s) j (by repeat (first | exact trivial | refine ⟨rfl, ?_⟩)) ⟨Ext.refl _, h2, Nat.le_refl _, hP⟩ ?_
    rintro s w4 ⟨x4, h4, h5, hP4⟩
    have D4 := D3.ext x4
    by_cases hsj : i ≤ s
    · obtain ⟨p, rfl⟩ : ∃ p, s = p + 1 := ⟨s - 1, by omega⟩
      have hs1 : ((p + 1 : Nat) : Int) - 1 = (p : Int) := by omega
      have hd : decide ((i : Int) ≤ ((p + 1 : Nat) : Int)) = true := decide_eq_true (by omega)
      obtain ⟨x, hx⟩ := D4.get (k := p + 1) (by omega)
      have hcx := D4.at hx
      have hcp := D4.at hpv
      repeat (first | refine Vx ?_ | (apply Ops_q; (case hon => exact Va); (case hd => rfl); (case hq => exact YlA)) | refine Vr ?_ | refine Vt ?_ | refine Vf ?_ | refine Vm ?_ | refine Ve ?_ | refine Vo ?_ | refine Vz ?_ | refine Vn ?_)
      refine Ops_know rfl rfl hd ?_
      repeat (first | refine Vx ?_ | (apply Ops_q; (case hon => exact Va); (case hd => rfl); (case hq => exact YlA)) | refine Vr ?_ | refine Vt ?_ | refine Vf ?_ | refine Vm ?_ | refine Ve ?_ | refine Vo ?_ | refine Vz ?_ | refine Vn ?_)
      (apply Ops_q; (case hon => (exact Va)); (case hd => rfl); (case hq => exact Yl_indexS (j := (p+1)) rfl rfl (by omega)))
      repeat (first | refine Vx ?_ | (apply Ops_q; (case hon => exact Va); (case hd => rfl); (case hq => exact YlA)) | refine Vr ?_ | refine Vt ?_ | refine Vf ?_ | refine Vm ?_ | refine Ve ?_ | refine Vo ?_ | refine Vz ?_ | refine Vn ?_)
      (apply Ops_q; (case hon => (exact Va)); (case hd => rfl); (case hq => exact Yl_indexS (j := a) rfl rfl (by omega)))
      repeat (first | refine Vx ?_ | (apply Ops_q; (case hon => exact Va); (case hd => rfl); (case hq => exact YlA)) | refine Vr ?_ | refine Vt ?_ | refine Vf ?_ | refine Vm ?_ | refine Ve ?_ | refine Vo ?_ | refine Vz ?_ | refine Vn ?_)
      (apply Ops_q; (case hon => (exact Va)); (case hd => rfl); (case hq => exact Yl_call rfl (fun w_ e_ => lessU_v x pv w_)))
      repeat (first | refine Vx ?_ | (apply Ops_q; (case hon => exact Va); (case hd => rfl); (case hq => exact YlA)) | refine Vr ?_ | refine Vt ?_ | refine Vf ?_ | refine Vm ?_ | refine Ve ?_ | refine Vo ?_ | refine Vz ?_ | refine Vn ?_)
      refine V_cond rfl (fun hlt => ?_) (fun hlt => ?_)
      · repeat (first | refine Vx ?_ | (apply Ops_q; (case hon => exact Va); (case hd => rfl); (case hq => exact YlA)) | refine Vr ?_ | refine Vt ?_ | refine Vf ?_ | refine Vm ?_ | refine Ve ?_ | refine Vo ?_ | refine Vz ?_ | refine Vn ?_)
        rw [hs1]
        exact ⟨p, (by repeat (first | exact trivial | refine ⟨rfl, ?_⟩)), ⟨x4, hsj, by omega, hP4.dec hx (by have h := hlt; simp at h; simp only [ltU]; omega)⟩, by omega⟩
      · repeat (first | refine Vx ?_ | (apply Ops_q; (case hon => exact Va); (case hd => rfl); (case hq => exact YlA)) | refine Vr ?_ | refine Vt ?_ | refine Vf ?_ | refine Vm ?_ | refine Ve ?_ | refine Vo ?_ | refine Vz ?_ | refine Vn ?_)
        exact ⟨p + 1, (by repeat (first | exact trivial | refine ⟨rfl, ?_⟩)), x4, h4, h5, hP4, fun z _ hz => by rw [hx] at hz; cases hz; have h := hlt; simp at h; simp only [ltU]; omega⟩
    · have hd : decide ((i : Int) ≤ (s : Int)) = false := decide_eq_false (by omega)
      repeat (first | refine Vx ?_ | (apply Ops_q; (case hon => exact Va); (case hd => rfl); (case hq => exact YlA)) | refine Vr ?_ | refine Vt ?_ | refine Vf ?_ | refine Vm ?_ | refine Ve ?_ | refine Vo ?_ | refine Vz ?_ | refine Vn ?_)
      refine Ops_know rfl rfl hd ?_
      repeat (first | refine Vx ?_ | (apply Ops_q; (case hon => exact Va); (case hd => rfl); (case hq => exact YlA)) | refine Vr ?_ | refine Vt ?_ | refine Vf ?_ | refine Vm ?_ | refine Ve ?_ | refine Vo ?_ | refine Vz ?_ | refine Vn ?_)
      exact ⟨s, (by repeat (first | exact trivial | refine ⟨rfl, ?_⟩)), x4, h4, h5, hP4, fun z h => absurd h hsj⟩
  clear h2 hP
  rintro j w3 ⟨x3, h2, hjj, hP, hdown⟩
  have D3 := D3.ext x3
  have m3 := m3.ext x3
  replace hjb : j < b := by omega
  replace hup : ∀ x, i ≤ j → M[i]? = some x → ¬ltU x pv < 0 := fun x h => hup x (by omega)
  clear x3
  repeat (first | refine Vx ?_ | (apply Ops_q; (case hon => exact Va); (case hd => rfl); (case hq => exact YlA)) | refine Vr ?_ | refine Vt ?_ | refine Vf ?_ | refine Vm ?_ | refine Ve ?_ | refine Vo ?_ | refine Vz ?_ | refine Vn ?_)
  refine V_cond rfl (fun hg => ?_) (fun hg => ?_)
  · replace hg := of_decide_eq_true hg
    obtain rfl : i = j + 1 := by omega
    have hMl := D3.len
    obtain ⟨x, hx⟩ := D3.get (k := j) (by omega)
    obtain ⟨y, hy⟩ := D3.get (k := a) (by omega)
    have hcx := D3.at hx
    have hcy := D3.at hy
    repeat (first | refine Vx ?_ | (apply Ops_q; (case hon => exact Va); (case hd => rfl); (case hq => exact YlA)) | refine Vt ?_ | refine Vf ?_ | refine Vm ?_ | refine Ve ?_ | refine Vo ?_ | refine Vz ?_ | refine Vn ?_)
    refine V_store (R := fun w' => DatU w' base g n cap (M.set (j) y) ∧ Mod (fun c => c = g) w3 w') 14 13 (fun _ _ he h => ⟨h.1.ext he, h.2.ext he⟩) (by kernel_rfl) rfl (by kernel_rfl) ?_
    repeat (first
      | (refine YsS.pure rfl rfl rfl rfl rfl (fun w_ => (by first | exact Yl_move rfl | exact Yl_pred rfl rfl (by omega) | exact Yl_arith_in rfl rfl rfl (by first | assumption | (simp only [InK]; omega)))) ?_)
      | (refine YsS.load rfl rfl rfl rfl rfl (by first | exact Yl_load rfl hcx | exact Yl_load rfl hcy) ?_))
    refine YsS.pure rfl rfl rfl rfl rfl (fun w_ => Yl_indexS (j := (a)) rfl rfl (by omega)) ?_
    repeat (first
      | (refine YsS.pure rfl rfl rfl rfl rfl (fun w_ => (by first | exact Yl_move rfl | exact Yl_pred rfl rfl (by omega) | exact Yl_arith_in rfl rfl rfl (by first | assumption | (simp only [InK]; omega)))) ?_)
      | (refine YsS.load rfl rfl rfl rfl rfl (by first | exact Yl_load rfl hcx | exact Yl_load rfl hcy) ?_))
    refine YsS.pure rfl rfl rfl rfl rfl (fun w_ => Yl_indexS (j := (j)) rfl rfl (by omega)) ?_
    repeat (first
      | (refine YsS.pure rfl rfl rfl rfl rfl (fun w_ => (by first | exact Yl_move rfl | exact Yl_pred rfl rfl (by omega) | exact Yl_arith_in rfl rfl rfl (by first | assumption | (simp only [InK]; omega)))) ?_)
      | (refine YsS.load rfl rfl rfl rfl rfl (by first | exact Yl_load rfl hcx | exact Yl_load rfl hcy) ?_))
    refine YsS.pure rfl rfl rfl rfl rfl (fun w_ => Yl_indexS (j := (j)) rfl rfl (by omega)) ?_
    refine YsS.nil rfl ⟨fun a_ ag_ w_ hw_ => storeDatU_run (i := j) (v := y) rfl rfl rfl D3 (by omega) a_ ag_ w_ hw_, ?_⟩
    repeat (first
      | (refine YsS.pure rfl rfl rfl rfl rfl (fun w_ => (by first | exact Yl_move rfl | exact Yl_pred rfl rfl (by omega) | exact Yl_arith_in rfl rfl rfl (by first | assumption | (simp only [InK]; omega)))) ?_)
      | (refine YsS.load rfl rfl rfl rfl rfl (by first | exact Yl_load rfl hcx | exact Yl_load rfl hcy) ?_))
    refine YsS.nil rfl ?_
    rintro w4 ⟨D4, m4⟩
    repeat (first | refine Vx ?_ | (apply Ops_q; (case hon => exact Va); (case hd => rfl); (case hq => exact YlA)) | refine Vr ?_ | refine Vt ?_ | refine Vf ?_ | refine Vm ?_ | refine Ve ?_ | refine Vo ?_ | refine Vz ?_ | refine Vn ?_)
    (apply Ops_q; (case hon => (exact Va)); (case hd => rfl); (case hq => exact Yl_indexS (j := (a)) rfl rfl (by omega)))
    repeat (first | refine Vx ?_ | (apply Ops_q; (case hon => exact Va); (case hd => rfl); (case hq => exact YlA)) | refine Vr ?_ | refine Vt ?_ | refine Vf ?_ | refine Vm ?_ | refine Ve ?_ | refine Vo ?_ | refine Vz ?_ | refine Vn ?_)
    refine Ops_storeDatU (i := a) (v := x) (by exact Va) rfl rfl rfl D4 (by omega) ?_
    intro w5 D5 g5
    have m5 : Mod (BlkU g) w w5 := (m3.trans m4).grow g5 (fun b hb => .inl (by cases hb; rfl))
    have hsw : (M.set (j) y).set (a) x = swp M (j) (a) := by unfold swp; rw [hx, hy]
    rw [hsw] at D5
    have hM5 : Moved L (swp M j a) a b := hM.trans (Moved.swp (by omega) (by omega) (by omega))
    obtain ⟨q1, q2⟩ := part_end ordU hP hpv (by omega) (by omega)
    repeat (first | refine Vx ?_ | (apply Ops_q; (case hon => exact Va); (case hd => rfl); (case hq => exact YlA)) | refine Vr ?_ | refine Vt ?_ | refine Vf ?_ | refine Vm ?_ | refine Ve ?_ | refine Vo ?_ | refine Vz ?_ | refine Vn ?_)
    refine ret2 (by first | exact .inl rfl | exact .inr rfl) rfl rfl rfl ?_
    exact Does_mk (fun w' he => ⟨_, D5.ext he, ⟨j, _, rfl, by omega, hjb, hM5, q1, q2⟩⟩) m5
  replace hg := of_decide_eq_false hg
  have hMl := D3.len
  obtain ⟨p, rfl⟩ : ∃ p, j = p + 1 := ⟨j - 1, by omega⟩
  have hs1 : ((p + 1 : Nat) : Int) - 1 = (p : Int) := by omega
  obtain ⟨x, hx⟩ := D3.get (k := i) (by omega)
  obtain ⟨y, hy⟩ := D3.get (k := p + 1) (by omega)
  have hcx := D3.at hx
  have hcy := D3.at hy
  have hQx := hup x (by omega) hx
  have hPy := hdown y (by omega) hy
  have hij : i < p + 1 := by
    rcases Nat.lt_or_ge i (p + 1) with h | h
    · exact h
    · obtain rfl : i = p + 1 := by omega
      rw [hx] at hy; cases hy
      simp only [ltU] at hQx hPy; omega
  repeat (first | refine Vx ?_ | (apply Ops_q; (case hon => exact Va); (case hd => rfl); (case hq => exact YlA)) | refine Vt ?_ | refine Vf ?_ | refine Vm ?_ | refine Ve ?_ | refine Vo ?_ | refine Vz ?_ | refine Vn ?_)
  refine V_store (R := fun w' => DatU w' base g n cap (M.set (i) y) ∧ Mod (fun c => c = g) w3 w') 14 13 (fun _ _ he h => ⟨h.1.ext he, h.2.ext he⟩) (by kernel_rfl) rfl (by kernel_rfl) ?_
  repeat (first
    | (refine YsS.pure rfl rfl rfl rfl rfl (fun w_ => (by first | exact Yl_move rfl | exact Yl_pred rfl rfl (by omega) | exact Yl_arith_in rfl rfl rfl (by first | assumption | (simp only [InK]; omega)))) ?_)
    | (refine YsS.load rfl rfl rfl rfl rfl (by first | exact Yl_load rfl hcx | exact Yl_load rfl hcy) ?_))
  refine YsS.pure rfl rfl rfl rfl rfl (fun w_ => Yl_indexS (j := (p+1)) rfl rfl (by omega)) ?_
  repeat (first
    | (refine YsS.pure rfl rfl rfl rfl rfl (fun w_ => (by first | exact Yl_move rfl | exact Yl_pred rfl rfl (by omega) | exact Yl_arith_in rfl rfl rfl (by first | assumption | (simp only [InK]; omega)))) ?_)
    | (refine YsS.load rfl rfl rfl rfl rfl (by first | exact Yl_load rfl hcx | exact Yl_load rfl hcy) ?_))
  refine YsS.pure rfl rfl rfl rfl rfl (fun w_ => Yl_indexS (j := (i)) rfl rfl (by omega)) ?_
  repeat (first
    | (refine YsS.pure rfl rfl rfl rfl rfl (fun w_ => (by first | exact Yl_move rfl | exact Yl_pred rfl rfl (by omega) | exact Yl_arith_in rfl rfl rfl (by first | assumption | (simp only [InK]; omega)))) ?_)
    | (refine YsS.load rfl rfl rfl rfl rfl (by first | exact Yl_load rfl hcx | exact Yl_load rfl hcy) ?_))
  refine YsS.pure rfl rfl rfl rfl rfl (fun w_ => Yl_indexS (j := (i)) rfl rfl (by omega)) ?_
  refine YsS.nil rfl ⟨fun a_ ag_ w_ hw_ => storeDatU_run (i := i) (v := y) rfl rfl rfl D3 (by omega) a_ ag_ w_ hw_, ?_⟩
  repeat (first
    | (refine YsS.pure rfl rfl rfl rfl rfl (fun w_ => (by first | exact Yl_move rfl | exact Yl_pred rfl rfl (by omega) | exact Yl_arith_in rfl rfl rfl (by first | assumption | (simp only [InK]; omega)))) ?_)
    | (refine YsS.load rfl rfl rfl rfl rfl (by first | exact Yl_load rfl hcx | exact Yl_load rfl hcy) ?_))
  refine YsS.nil rfl ?_
  rintro w4 ⟨D4, m4⟩
  repeat (first | refine Vx ?_ | (apply Ops_q; (case hon => exact Va); (case hd => rfl); (case hq => exact YlA)) | refine Vr ?_ | refine Vt ?_ | refine Vf ?_ | refine Vm ?_ | refine Ve ?_ | refine Vo ?_ | refine Vz ?_ | refine Vn ?_)
  (apply Ops_q; (case hon => (exact Va)); (case hd => rfl); (case hq => exact Yl_indexS (j := (p+1)) rfl rfl (by omega)))
  repeat (first | refine Vx ?_ | (apply Ops_q; (case hon => exact Va); (case hd => rfl); (case hq => exact YlA)) | refine Vr ?_ | refine Vt ?_ | refine Vf ?_ | refine Vm ?_ | refine Ve ?_ | refine Vo ?_ | refine Vz ?_ | refine Vn ?_)
  refine Ops_storeDatU (i := p+1) (v := x) (by exact Va) rfl rfl rfl D4 (by omega) ?_
  intro w5 D5 g5
  have m5 : Mod (BlkU g) w w5 := (m3.trans m4).grow g5 (fun b hb => .inl (by cases hb; rfl))
  have hsw : (M.set (i) y).set (p+1) x = swp M (i) (p+1) := by unfold swp; rw [hx, hy]
  rw [hsw] at D5
  repeat (first | refine Vx ?_ | (apply Ops_q; (case hon => exact Va); (case hd => rfl); (case hq => exact YlA)) | refine Vr ?_ | refine Vt ?_ | refine Vf ?_ | refine Vm ?_ | refine Ve ?_ | refine Vo ?_ | refine Vz ?_ | refine Vn ?_)
  rw [hs1]
  have hP5 := hP.swap hij (by omega) hx hy hQx hPy
  have hM5 : Moved L (swp M i (p + 1)) a b := hM.trans (Moved.swp (by omega) (by omega) (by omega))
  have hpv5 : (swp M i (p + 1))[a]? = some pv := by rw [swp_get (by omega) (by omega), if_neg (by omega), if_neg (by omega)]; exact hpv
  exact ⟨(i + 1, p, swp M i (p + 1)), (by repeat (first | exact trivial | refine ⟨rfl, ?_⟩)), ⟨by dsimp only; omega, by dsimp only; omega, by dsimp only; omega, m5, D5, hM5, hpv5, hP5⟩, by simp only; omega⟩
set_option maxHeartbeats 2000000 in
theorem partEqU_v (L : List Int) (a b p0 : Nat) (pv : Int) (w : World) (hD : DatU w base g n cap L) (hn : n ≤ 1000000000000) (hb : b ≤ n) (hab : a < b) (hp0 : a ≤ p0 ∧ p0 < b) (hv0 : L[p0]? = some pv) :
    Calls Try.prog 117 #[.slice (some ⟨g, 0, none⟩) n cap, .int .i64 a, .int .i64 b, .int .i64 p0] w
      (Does (BlkU g) (DatV base g n cap (fun r L' => ∃ i : Nat, r = .int .i64 i ∧ a < i ∧ i ≤ b ∧ Moved L L' a b ∧ (∀ k x, a ≤ k → k < i → L'[k]? = some x → ¬ltU pv x < 0) ∧ ∀ k x, i ≤ k → k < b → L'[k]? = some x → ltU pv x < 0)) w) := by
  obtain ⟨z, hbz⟩ : ∃ z, z + 1 = b := ⟨b - 1, by omega⟩
  have hz : (b : Int) - 1 = (z : Int) := by omega
  have hMl := hD.len
  obtain ⟨x, hx⟩ := hD.get (k := a) (by omega)
  obtain ⟨y, hy⟩ := hD.get (k := p0) (by omega)
  obtain rfl : y = pv := Option.some.inj (hy.symm.trans hv0)
  have hcx := hD.at hx
  have hcy := hD.at hy
  have m3 : Mod (BlkU g) w w := .of_ext (Ext.refl _)
  refine V_enter (vs := [_, _, _, _]) Try.func117 rfl Try.ntmps117 (Nat.le_of_ble_eq_true rfl) ?_
  repeat (first | refine Vx ?_ | (apply Ops_q; (case hon => exact Va); (case hd => rfl); (case hq => exact YlA)) | refine Vt ?_ | refine Vf ?_ | refine Vm ?_ | refine Ve ?_ | refine Vo ?_ | refine Vz ?_ | refine Vn ?_)
  refine V_store (R := fun w' => DatU w' base g n cap (L.set (a) y) ∧ Mod (fun c => c = g) w w') 14 13 (fun _ _ he h => ⟨h.1.ext he, h.2.ext he⟩) (by kernel_rfl) rfl (by kernel_rfl) ?_
  repeat (first
    | (refine YsS.pure rfl rfl rfl rfl rfl (fun w_ => (by first | exact Yl_move rfl | exact Yl_pred rfl rfl (by omega) | exact Yl_arith_in rfl rfl rfl (by first | assumption | (simp only [InK]; omega)))) ?_)
    | (refine YsS.load rfl rfl rfl rfl rfl (by first | exact Yl_load rfl hcx | exact Yl_load rfl hcy) ?_))
  refine YsS.pure rfl rfl rfl rfl rfl (fun w_ => Yl_indexS (j := (p0)) rfl rfl (by omega)) ?_
  repeat (first
    | (refine YsS.pure rfl rfl rfl rfl rfl (fun w_ => (by first | exact Yl_move rfl | exact Yl_pred rfl rfl (by omega) | exact Yl_arith_in rfl rfl rfl (by first | assumption | (simp only [InK]; omega)))) ?_)
    | (refine YsS.load rfl rfl rfl rfl rfl (by first | exact Yl_load rfl hcx | exact Yl_load rfl hcy) ?_))
  refine YsS.pure rfl rfl rfl rfl rfl (fun w_ => Yl_indexS (j := (a)) rfl rfl (by omega)) ?_
  repeat (first
    | (refine YsS.pure rfl rfl rfl rfl rfl (fun w_ => (by first | exact Yl_move rfl | exact Yl_pred rfl rfl (by omega) | exact Yl_arith_in rfl rfl rfl (by first | assumption | (simp only [InK]; omega)))) ?_)
    | (refine YsS.load rfl rfl rfl rfl rfl (by first | exact Yl_load rfl hcx | exact Yl_load rfl hcy) ?_))
  refine YsS.pure rfl rfl rfl rfl rfl (fun w_ => Yl_indexS (j := (a)) rfl rfl (by omega)) ?_
  refine YsS.nil rfl ⟨fun a_ ag_ w_ hw_ => storeDatU_run (i := a) (v := y) rfl rfl rfl hD (by omega) a_ ag_ w_ hw_, ?_⟩
  repeat (first
    | (refine YsS.pure rfl rfl rfl rfl rfl (fun w_ => (by first | exact Yl_move rfl | exact Yl_pred rfl rfl (by omega) | exact Yl_arith_in rfl rfl rfl (by first | assumption | (simp only [InK]; omega)))) ?_)
    | (refine YsS.load rfl rfl rfl rfl rfl (by first | exact Yl_load rfl hcx | exact Yl_load rfl hcy) ?_))
  refine YsS.nil rfl ?_
  rintro w4 ⟨D4, m4⟩
  repeat (first | refine Vx ?_ | (apply Ops_q; (case hon => exact Va); (case hd => rfl); (case hq => exact YlA)) | refine Vr ?_ | refine Vt ?_ | refine Vf ?_ | refine Vm ?_ | refine Ve ?_ | refine Vo ?_ | refine Vz ?_ | refine Vn ?_)
  (apply Ops_q; (case hon => (exact Va)); (case hd => rfl); (case hq => exact Yl_indexS (j := (p0)) rfl rfl (by omega)))
  repeat (first | refine Vx ?_ | (apply Ops_q; (case hon => exact Va); (case hd => rfl); (case hq => exact YlA)) | refine Vr ?_ | refine Vt ?_ | refine Vf ?_ | refine Vm ?_ | refine Ve ?_ | refine Vo ?_ | refine Vz ?_ | refine Vn ?_)
  refine Ops_storeDatU (i := p0) (v := x) (by exact Va) rfl rfl rfl D4 (by omega) ?_
  intro w5 D5 g5
  have m5 : Mod (BlkU g) w w5 := (m3.trans m4).grow g5 (fun b hb => .inl (by cases hb; rfl))
  have hsw : (L.set (a) y).set (p0) x = swp L (a) (p0) := by unfold swp; rw [hx, hy]
  rw [hsw] at D5
  have hM : Moved L (swp L a p0) a b := Moved.swp (by omega) hp0 (by omega)
  have hpv : (swp L a p0)[a]? = some y := by
    rw [swp_get (by omega) (by omega)]
    by_cases e : a = p0
    · rw [if_pos e, e]; exact hy
    · rw [if_neg e, if_pos rfl]; exact hy
  generalize swp L a p0 = M at *
  clear hx hy hcx hcy D4 m4 g5 hsw m3 hD hMl hv0
  have hMl := D5.len
  repeat (first | refine Vx ?_ | (apply Ops_q; (case hon => exact Va); (case hd => rfl); (case hq => exact YlA)) | refine Vr ?_ | refine Vt ?_ | refine Vf ?_ | refine Vm ?_ | refine Ve ?_ | refine Vo ?_ | refine Vz ?_ | refine Vn ?_)
  rw [hz]
  have hP : PtS (fun x => ¬ltU y x < 0) (fun x => ltU y x < 0) M a (a + 1) z b := .start hbz
  have hzb : z < b := by omega
  have haz : a + 1 ≤ z + 1 := by omega
  obtain ⟨pv, hpve⟩ : ∃ pv, pv = y := ⟨_, rfl⟩
  rw [← hpve] at hpv hP ⊢
  clear hpve hp0
  refine V_loop (fun s : Nat × Nat × List Int => [(9, .int .i64 s.1), (10, .int .i64 s.2.1), (0, .slice (some ⟨g, 0, none⟩) n cap), (1, .int .i64 a)])
    (fun s w' => a + 1 ≤ s.1 ∧ s.1 ≤ s.2.1 + 1 ∧ s.2.1 < b ∧ Mod (BlkU g) w w' ∧ DatU w' base g n cap s.2.2 ∧ Moved L s.2.2 a b ∧ s.2.2[a]? = some pv ∧ PtS (fun x => ¬ltU pv x < 0) (fun x => ltU pv x < 0) s.2.2 a s.1 s.2.1 b) (fun s => s.2.1 + 1 - s.1) (a + 1, z, M) (by repeat (first | exact trivial | refine ⟨rfl, ?_⟩))
    ⟨Nat.le_refl _, haz, hzb, m5, D5, hM, hpv, hP⟩ ?_
  clear haz hzb m5 D5 hM hpv hP hz hbz hMl
  rintro ⟨i, j, M⟩ w3 ⟨h1, h2, hjb, m3, D3, hM, hpv, hP⟩
  dsimp only at h1 h2 hjb D3 hM hpv hP ⊢
  (repeat (first | refine V_seq ?_ | refine V_block ?_))
  refine V_meetB (fun s : Nat => [(9, .int .i64 s), (10, .int .i64 j), (0, .slice (some ⟨g, 0, none⟩) n cap), (1, .int .i64 a)])
    (fun s w' => Ext w3 w' ∧ i ≤ s ∧ s ≤ j + 1 ∧ PtS (fun x => ¬ltU pv x < 0) (fun x => ltU pv x < 0) M a s j b ∧ ∀ x, s ≤ j → M[s]? = some x → ltU pv x < 0) ?_ ?_
  · refine V_loop (fun s : Nat => [(9, .int .i64 s), (10, .int .i64 j), (0, .slice (some ⟨g, 0, none⟩) n cap), (1, .int .i64 a)])
      (fun s w' => Ext w3 w' ∧ i ≤ s ∧ s ≤ j + 1 ∧ PtS (fun x => ¬ltU pv x < 0) (fun x => ltU pv x < 0) M a s j b) (fun s => j + 1 - s) i (by repeat (first | exact trivial | refine ⟨rfl, ?_⟩)) ⟨Ext.refl _, Nat.le_refl _, h2, hP⟩ ?_
    rintro s w4 ⟨x4, h4, h5, hP4⟩
    have D4 := D3.ext x4
    by_cases hsj : s ≤ j
    · have hd : decide ((s : Int) ≤ (j : Int)) = true := decide_eq_true (by omega)
      obtain ⟨x, hx⟩ := D4.get (k := s) (by omega)
      have hcx := D4.at hx
      have hcp := D4.at hpv
      repeat (first | refine Vx ?_ | (apply Ops_q; (case hon => exact Va); (case hd => rfl); (case hq => exact YlA)) | refine Vr ?_ | refine Vt ?_ | refine Vf ?_ | refine Vm ?_ | refine Ve ?_ | refine Vo ?_ | refine Vz ?_ | refine Vn ?_)
      refine Ops_know rfl rfl hd ?_
      repeat (first | refine Vx ?_ | (apply Ops_q; (case hon => exact Va); (case hd => rfl); (case hq => exact YlA)) | refine Vr ?_ | refine Vt ?_ | refine Vf ?_ | refine Vm ?_ | refine Ve ?_ | refine Vo ?_ | refine Vz ?_ | refine Vn ?_)
      (apply Ops_q; (case hon => (exact Va)); (case hd => rfl); (case hq => exact Yl_indexS (j := a) rfl rfl (by omega)))
      repeat (first | refine Vx ?_ | (apply Ops_q; (case hon => exact Va); (case hd => rfl); (case hq => exact YlA)) | refine Vr ?_ | refine Vt ?_ | refine Vf ?_ | refine Vm ?_ | refine Ve ?_ | refine Vo ?_ | refine Vz ?_ | refine Vn ?_)
      (apply Ops_q; (case hon => (exact Va)); (case hd => rfl); (case hq => exact Yl_indexS (j := s) rfl rfl (by omega)))
      repeat (first | refine Vx ?_ | (apply Ops_q; (case hon => exact Va); (case hd => rfl); (case hq => exact YlA)) | refine Vr ?_ | refine Vt ?_ | refine Vf ?_ | refine Vm ?_ | refine Ve ?_ | refine Vo ?_ | refine Vz ?_ | refine Vn ?_)
      (apply Ops_q; (case hon => (exact Va)); (case hd => rfl); (case hq => exact Yl_call rfl (fun w_ e_ => lessU_v pv x w_)))
      repeat (first | refine Vx ?_ | (apply Ops_q; (case hon => exact Va); (case hd => rfl); (case hq => exact YlA)) | refine Vr ?_ | refine Vt ?_ | refine Vf ?_ | refine Vm ?_ | refine Ve ?_ | refine Vo ?_ | refine Vz ?_ | refine Vn ?_)
      refine V_cond rfl (fun hlt => ?_) (fun hlt => ?_)
      · repeat (first | refine Vx ?_ | (apply Ops_q; (case hon => exact Va); (case hd => rfl); (case hq => exact YlA)) | refine Vr ?_ | refine Vt ?_ | refine Vf ?_ | refine Vm ?_ | refine Ve ?_ | refine Vo ?_ | refine Vz ?_ | refine Vn ?_)
        exact ⟨s + 1, (by repeat (first | exact trivial | refine ⟨rfl, ?_⟩)), ⟨x4, by omega, by omega, hP4.inc hx (by have h := hlt; simp at h; simp only [ltU]; omega)⟩, by omega⟩
      · repeat (first | refine Vx ?_ | (apply Ops_q; (case hon => exact Va); (case hd => rfl); (case hq => exact YlA)) | refine Vr ?_ | refine Vt ?_ | refine Vf ?_ | refine Vm ?_ | refine Ve ?_ | refine Vo ?_ | refine Vz ?_ | refine Vn ?_)
        exact ⟨s, (by repeat (first | exact trivial | refine ⟨rfl, ?_⟩)), x4, h4, h5, hP4, fun z _ hz => by rw [hx] at hz; cases hz; have h := hlt; simp at h; simp only [ltU]; omega⟩
    · have hd : decide ((s : Int) ≤ (j : Int)) = false := decide_eq_false (by omega)
      repeat (first | refine Vx ?_ | (apply Ops_q; (case hon => exact Va); (case hd => rfl); (case hq => exact YlA)) | refine Vr ?_ | refine Vt ?_ | refine Vf ?_ | refine Vm ?_ | refine Ve ?_ | refine Vo ?_ | refine Vz ?_ | refine Vn ?_)
      refine Ops_know rfl rfl hd ?_
      repeat (first | refine Vx ?_ | (apply Ops_q; (case hon => exact Va); (case hd => rfl); (case hq => exact YlA)) | refine Vr ?_ | refine Vt ?_ | refine Vf ?_ | refine Vm ?_ | refine Ve ?_ | refine Vo ?_ | refine Vz ?_ | refine Vn ?_)
      exact ⟨s, (by repeat (first | exact trivial | refine ⟨rfl, ?_⟩)), x4, h4, h5, hP4, fun z h => absurd h hsj⟩
  clear h2 hP
  rintro i w3 ⟨x3, hii, h2, hP, hup⟩
  have D3 := D3.ext x3
  have m3 := m3.ext x3
  replace h1 : a + 1 ≤ i := by omega
  clear x3
  refine V_seq ?_
  refine V_block ?_
  refine V_meetB (fun s : Nat => [(9, .int .i64 i), (10, .int .i64 s), (0, .slice (some ⟨g, 0, none⟩) n cap), (1, .int .i64 a)])
    (fun s w' => Ext w3 w' ∧ i ≤ s + 1 ∧ s ≤ j ∧ PtS (fun x => ¬ltU pv x < 0) (fun x => ltU pv x < 0) M a i s b ∧ ∀ x, i ≤ s → M[s]? = some x → ¬ltU pv x < 0) ?_ ?_
  · refine V_loop (fun s : Nat => [(9, .int .i64 i), (10, .int .i64 s), (0, .slice (some ⟨g, 0, none⟩) n cap), (1, .int .i64 a)])
      (fun s w' => Ext w3 w' ∧ i ≤ s + 1 ∧ s ≤ j ∧ PtS (fun x => ¬ltU pv x < 0) (fun x => ltU pv x < 0) M a i s b) (fun s => s) j (by repeat (first | exact trivial | refine ⟨rfl, ?_⟩)) ⟨Ext.refl _, h2, Nat.le_refl _, hP⟩ ?_
    rintro s w4 ⟨x4, h4, h5, hP4⟩
    have D4 := D3.ext x4
    by_cases hsj : i ≤ s
    · obtain ⟨p, rfl⟩ : ∃ p, s = p + 1 := ⟨s - 1, by omega⟩
      have hs1 : ((p + 1 : Nat) : Int) - 1 = (p : Int) := by omega
      have hd : decide ((i : Int) ≤ ((p + 1 : Nat) : Int)) = true := decide_eq_true (by omega)
      obtain ⟨x, hx⟩ := D4.get (k := p + 1) (by omega)
      have hcx := D4.at hx
      have hcp := D4.at hpv
      repeat (first | refine Vx ?_ | (apply Ops_q; (case hon => exact Va); (case hd => rfl); (case hq => exact YlA)) | refine Vr ?_ | refine Vt ?_ | refine Vf ?_ | refine Vm ?_ | refine Ve ?_ | refine Vo ?_ | refine Vz ?_ | refine Vn ?_)
      refine Ops_know rfl rfl hd ?_
      repeat (first | refine Vx ?_ | (apply Ops_q; (case hon => exact Va); (case hd => rfl); (case hq => exact YlA)) | refine Vr ?_ | refine Vt ?_ | refine Vf ?_ | refine Vm ?_ | refine Ve ?_ | refine Vo ?_ | refine Vz ?_ | refine Vn ?_)
      (apply Ops_q; (case hon => (exact Va)); (case hd => rfl); (case hq => exact Yl_indexS (j := a) rfl rfl (by omega)))
      repeat (first | refine Vx ?_ | (apply Ops_q; (case hon => exact Va); (case hd => rfl); (case hq => exact YlA)) | refine Vr ?_ | refine Vt ?_ | refine Vf ?_ | refine Vm ?_ | refine Ve ?_ | refine Vo ?_ | refine Vz ?_ | refine Vn ?_)
      (apply Ops_q; (case hon => (exact Va)); (case hd => rfl); (case hq => exact Yl_indexS (j := (p+1)) rfl rfl (by omega)))
      repeat (first | refine Vx ?_ | (apply Ops_q; (case hon => exact Va); (case hd => rfl); (case hq => exact YlA)) | refine Vr ?_ | refine Vt ?_ | refine Vf ?_ | refine Vm ?_ | refine Ve ?_ | refine Vo ?_ | refine Vz ?_ | refine Vn ?_)
      (apply Ops_q; (case hon => (exact Va)); (case hd => rfl); (case hq => exact Yl_call rfl (fun w_ e_ => lessU_v pv x w_)))
      repeat (first | refine Vx ?_ | (apply Ops_q; (case hon => exact Va); (case hd => rfl); (case hq => exact YlA)) | refine Vr ?_ | refine Vt ?_ | refine Vf ?_ | refine Vm ?_ | refine Ve ?_ | refine Vo ?_ | refine Vz ?_ | refine Vn ?_)
      refine V_cond rfl (fun hlt => ?_) (fun hlt => ?_)
      · repeat (first | refine Vx ?_ | (apply Ops_q; (case hon => exact Va); (case hd => rfl); (case hq => exact YlA)) | refine Vr ?_ | refine Vt ?_ | refine Vf ?_ | refine Vm ?_ | refine Ve ?_ | refine Vo ?_ | refine Vz ?_ | refine Vn ?_)
        rw [hs1]
        exact ⟨p, (by repeat (first | exact trivial | refine ⟨rfl, ?_⟩)), ⟨x4, hsj, by omega, hP4.dec hx (by have h := hlt; simp at h; simp only [ltU]; omega)⟩, by omega⟩
      · repeat (first | refine Vx ?_ | (apply Ops_q; (case hon => exact Va); (case hd => rfl); (case hq => exact YlA)) | refine Vr ?_ | refine Vt ?_ | refine Vf ?_ | refine Vm ?_ | refine Ve ?_ | refine Vo ?_ | refine Vz ?_ | refine Vn ?_)
        exact ⟨p + 1, (by repeat (first | exact trivial | refine ⟨rfl, ?_⟩)), x4, h4, h5, hP4, fun z _ hz => by rw [hx] at hz; cases hz; have h := hlt; simp at h; simp only [ltU]; omega⟩
    · have hd : decide ((i : Int) ≤ (s : Int)) = false := decide_eq_false (by omega)
      repeat (first | refine Vx ?_ | (apply Ops_q; (case hon => exact Va); (case hd => rfl); (case hq => exact YlA)) | refine Vr ?_ | refine Vt ?_ | refine Vf ?_ | refine Vm ?_ | refine Ve ?_ | refine Vo ?_ | refine Vz ?_ | refine Vn ?_)
      refine Ops_know rfl rfl hd ?_
      repeat (first | refine Vx ?_ | (apply Ops_q; (case hon => exact Va); (case hd => rfl); (case hq => exact YlA)) | refine Vr ?_ | refine Vt ?_ | refine Vf ?_ | refine Vm ?_ | refine Ve ?_ | refine Vo ?_ | refine Vz ?_ | refine Vn ?_)
      exact ⟨s, (by repeat (first | exact trivial | refine ⟨rfl, ?_⟩)), x4, h4, h5, hP4, fun z h => absurd h hsj⟩
  clear h2 hP
  rintro j w3 ⟨x3, h2, hjj, hP, hdown⟩
  have D3 := D3.ext x3
  have m3 := m3.ext x3
  replace hjb : j < b := by omega
  replace hup : ∀ x, i ≤ j → M[i]? = some x → ltU pv x < 0 := fun x h => hup x (by omega)
  clear x3
  repeat (first | refine Vx ?_ | (apply Ops_q; (case hon => exact Va); (case hd => rfl); (case hq => exact YlA)) | refine Vr ?_ | refine Vt ?_ | refine Vf ?_ | refine Vm ?_ | refine Ve ?_ | refine Vo ?_ | refine Vz ?_ | refine Vn ?_)
  refine V_cond rfl (fun hg => ?_) (fun hg => ?_)
  · replace hg := of_decide_eq_true hg
    obtain rfl : i = j + 1 := by omega
    repeat (first | refine Vx ?_ | (apply Ops_q; (case hon => exact Va); (case hd => rfl); (case hq => exact YlA)) | refine Vr ?_ | refine Vt ?_ | refine Vf ?_ | refine Vm ?_ | refine Ve ?_ | refine Vo ?_ | refine Vz ?_ | refine Vn ?_)
    refine ret1 (by first | exact .inl rfl | exact .inr rfl) rfl rfl ?_
    refine Does_mk (fun w' he => ⟨_, D3.ext he, ⟨j + 1, rfl, by omega, by omega, hM, fun k x h3 h4 hx => ?_, fun k x h3 h4 hx => hP.right k x (by omega) h4 hx⟩⟩) m3
    by_cases e : k = a
    · rw [e, hpv] at hx; cases hx; simp only [ltU]; omega
    · exact hP.left k x (by omega) h4 hx
  replace hg := of_decide_eq_false hg
  have hMl := D3.len
  obtain ⟨p, rfl⟩ : ∃ p, j = p + 1 := ⟨j - 1, by omega⟩
  have hs1 : ((p + 1 : Nat) : Int) - 1 = (p : Int) := by omega
  obtain ⟨x, hx⟩ := D3.get (k := i) (by omega)
  obtain ⟨y, hy⟩ := D3.get (k := p + 1) (by omega)
  have hcx := D3.at hx
  have hcy := D3.at hy
  have hQx := hup x (by omega) hx
  have hPy := hdown y (by omega) hy
  have hij : i < p + 1 := by
    rcases Nat.lt_or_ge i (p + 1) with h | h
    · exact h
    · obtain rfl : i = p + 1 := by omega
      rw [hx] at hy; cases hy
      simp only [ltU] at hQx hPy; omega
  repeat (first | refine Vx ?_ | (apply Ops_q; (case hon => exact Va); (case hd => rfl); (case hq => exact YlA)) | refine Vt ?_ | refine Vf ?_ | refine Vm ?_ | refine Ve ?_ | refine Vo ?_ | refine Vz ?_ | refine Vn ?_)
  refine V_store (R := fun w' => DatU w' base g n cap (M.set (i) y) ∧ Mod (fun c => c = g) w3 w') 14 13 (fun _ _ he h => ⟨h.1.ext he, h.2.ext he⟩) (by kernel_rfl) rfl (by kernel_rfl) ?_
  repeat (first
    | (refine YsS.pure rfl rfl rfl rfl rfl (fun w_ => (by first | exact Yl_move rfl | exact Yl_pred rfl rfl (by omega) | exact Yl_arith_in rfl rfl rfl (by first | assumption | (simp only [InK]; omega)))) ?_)
    | (refine YsS.load rfl rfl rfl rfl rfl (by first | exact Yl_load rfl hcx | exact Yl_load rfl hcy) ?_))
  refine YsS.pure rfl rfl rfl rfl rfl (fun w_ => Yl_indexS (j := (p+1)) rfl rfl (by omega)) ?_
  repeat (first
    | (refine YsS.pure rfl rfl rfl rfl rfl (fun w_ => (by first | exact Yl_move rfl | exact Yl_pred rfl rfl (by omega) | exact Yl_arith_in rfl rfl rfl (by first | assumption | (simp only [InK]; omega)))) ?_)
    | (refine YsS.load rfl rfl rfl rfl rfl (by first | exact Yl_load rfl hcx | exact Yl_load rfl hcy) ?_))
  refine YsS.pure rfl rfl rfl rfl rfl (fun w_ => Yl_indexS (j := (i)) rfl rfl (by omega)) ?_
  repeat (first
    | (refine YsS.pure rfl rfl rfl rfl rfl (fun w_ => (by first | exact Yl_move rfl | exact Yl_pred rfl rfl (by omega) | exact Yl_arith_in rfl rfl rfl (by first | assumption | (simp only [InK]; omega)))) ?_)
    | (refine YsS.load rfl rfl rfl rfl rfl (by first | exact Yl_load rfl hcx | exact Yl_load rfl hcy) ?_))
  refine YsS.pure rfl rfl rfl rfl rfl (fun w_ => Yl_indexS (j := (i)) rfl rfl (by omega)) ?_
  refine YsS.nil rfl ⟨fun a_ ag_ w_ hw_ => storeDatU_run (i := i) (v := y) rfl rfl rfl D3 (by omega) a_ ag_ w_ hw_, ?_⟩
  repeat (first
    | (refine YsS.pure rfl rfl rfl rfl rfl (fun w_ => (by first | exact Yl_move rfl | exact Yl_pred rfl rfl (by omega) | exact Yl_arith_in rfl rfl rfl (by first | assumption | (simp only [InK]; omega)))) ?_)
    | (refine YsS.load rfl rfl rfl rfl rfl (by first | exact Yl_load rfl hcx | exact Yl_load rfl hcy) ?_))
  refine YsS.nil rfl ?_
  rintro w4 ⟨D4, m4⟩
  repeat (first | refine Vx ?_ | (apply Ops_q; (case hon => exact Va); (case hd => rfl); (case hq => exact YlA)) | refine Vr ?_ | refine Vt ?_ | refine Vf ?_ | refine Vm ?_ | refine Ve ?_ | refine Vo ?_ | refine Vz ?_ | refine Vn ?_)
  (apply Ops_q; (case hon => (exact Va)); (case hd => rfl); (case hq => exact Yl_indexS (j := (p+1)) rfl rfl (by omega)))
  repeat (first | refine Vx ?_ | (apply Ops_q; (case hon => exact Va); (case hd => rfl); (case hq => exact YlA)) | refine Vr ?_ | refine Vt ?_ | refine Vf ?_ | refine Vm ?_ | refine Ve ?_ | refine Vo ?_ | refine Vz ?_ | refine Vn ?_)
  refine Ops_storeDatU (i := p+1) (v := x) (by exact Va) rfl rfl rfl D4 (by omega) ?_
  intro w5 D5 g5
  have m5 : Mod (BlkU g) w w5 := (m3.trans m4).grow g5 (fun b hb => .inl (by cases hb; rfl))
  have hsw : (M.set (i) y).set (p+1) x = swp M (i) (p+1) := by unfold swp; rw [hx, hy]
  rw [hsw] at D5
  repeat (first | refine Vx ?_ | (apply Ops_q; (case hon => exact Va); (case hd => rfl); (case hq => exact YlA)) | refine Vr ?_ | refine Vt ?_ | refine Vf ?_ | refine Vm ?_ | refine Ve ?_ | refine Vo ?_ | refine Vz ?_ | refine Vn ?_)
  rw [hs1]
  have hP5 := hP.swap hij (by omega) hx hy hQx hPy
  have hM5 : Moved L (swp M i (p + 1)) a b := hM.trans (Moved.swp (by omega) (by omega) (by omega))
  have hpv5 : (swp M i (p + 1))[a]? = some pv := by rw [swp_get (by omega) (by omega), if_neg (by omega), if_neg (by omega)]; exact hpv
  exact ⟨(i + 1, p, swp M i (p + 1)), (by repeat (first | exact trivial | refine ⟨rfl, ?_⟩)), ⟨by dsimp only; omega, by dsimp only; omega, by dsimp only; omega, m5, D5, hM5, hpv5, hP5⟩, by simp only; omega⟩
end
end Go.Proofs.Ytjpnaofoeeegeaa


/-
  Sorting words (slices.Sort at uint64): bits.Len, nextPowerOfTwo, the random numbers, breakPatterns.
  Conditions: the list is one's own, and not too long for a machine.
-/
namespace Go.Proofs.Ytjpnaofoeeegeaa
open Go.RowKit

theorem bitLenAux_spec : ∀ (f x : Nat), x < 2 ^ f → x < 2 ^ Lib.bitLenAux f x ∧ (0 < x → 2 ^ Lib.bitLenAux f x ≤ 2 * x)
  | 0, x, h => ⟨by simp at h; subst h; simp [Lib.bitLenAux], fun h2 => by simp at h; omega⟩
  | f + 1, x, h => by
    by_cases e : x = 0
    · subst e; simp [Lib.bitLenAux]
    · have ih := bitLenAux_spec f (x / 2) (by rw [Nat.pow_succ] at h; omega)
      have e2 : Lib.bitLenAux (f + 1) x = 1 + Lib.bitLenAux f (x / 2) := by simp [Lib.bitLenAux, e]
      rw [e2, Nat.add_comm, Nat.pow_succ]
      refine ⟨by omega, fun _ => ?_⟩
      by_cases h0 : 0 < x / 2
      · have := ih.2 h0; omega
      · have : x = 1 := by omega
        subst this
        cases f <;> simp [Lib.bitLenAux]
theorem bitLen_spec (x : Nat) (h : x < 2 ^ 64) : x < 2 ^ Lib.bitLen x ∧ (0 < x → 2 ^ Lib.bitLen x ≤ 2 * x) := bitLenAux_spec 64 x h
section
variable {P : Program} {N : Fr} {m : Env} {w : World} {dst : Nat} {ty : TypeId} {pos : String} {after : Array Edge} {g : Option (Nat × Bool)}
theorem Yl_len8 {t : TypeId} {x i : Operand} {k : IntKind} {y : Nat} (ht : P.underlying t = some .string) (hx : ev m x = some (.string Lib.len8tab)) (hi : ev m i = some (.int k (y : Int))) (hy : y < 256) :
    Yl P N m w ⟨dst, .index t x i, ty, pos, after, g⟩ (.int .u8 (Lib.bitLen y : Nat)) :=
  Yl_of_run fun ac w' ha _ => by
    have h1 := Lib.run_index_len8tab (P := P) w' t k (y : Int) ht (by omega) (by omega)
    rw [Lib.len8_of (y : Int) (by omega) (by omega)] at h1
    simp only [Int.toNat_natCast] at h1
    simp [execOp, ha.ev hx, ha.ev hi, h1]
end
set_option maxHeartbeats 2000000 in
theorem lenU_v (x : Nat) (w : World) (hx : x < 18446744073709551616) : Calls Try.prog 120 #[.int .u64 x] w (Ret (.int .i64 (Lib.bitLen x : Nat)) w) := by
  have p32 : (2 : Int) ^ (32 : Int).toNat = 4294967296 := by decide
  have p16 : (2 : Int) ^ (16 : Int).toNat = 65536 := by decide
  have p8 : (2 : Int) ^ (8 : Int).toNat = 256 := by decide
  refine V_enter (vs := [_]) Try.func120 rfl Try.ntmps120 (Nat.le_of_ble_eq_true rfl) ?_
  repeat (first | refine Vx ?_ | (apply Ops_q; (case hon => exact Va); (case hd => rfl); (case hq => exact YlA)) | refine Vr ?_ | refine Vt ?_ | refine Vf ?_ | refine Vm ?_ | refine Ve ?_ | refine Vo ?_ | refine Vz ?_ | refine Vn ?_)
  refine V_meet1 (fun s : Nat × Nat => [(0, .int .u64 s.1), (2, .int .i64 s.2)]) (fun s w' => w = w' ∧ s.1 < 4294967296 ∧ s.2 ≤ 32 ∧ Lib.bitLen x = s.2 + Lib.bitLen s.1) ?_ ?_
  · refine V_cond rfl (fun h => ?_) (fun h => ?_)
    · replace h := of_decide_eq_true h
      repeat (first | refine Vx ?_ | (apply Ops_q; (case hon => exact Va); (case hd => rfl); (case hq => exact YlA)) | refine Vr ?_ | refine Vt ?_ | refine Vf ?_ | refine Vm ?_ | refine Ve ?_ | refine Vo ?_ | refine Vz ?_ | refine Vn ?_)
      have e1 : (x : Int) / 2 ^ (32 : Int).toNat = ((x / 4294967296 : Nat) : Int) := by rw [p32]; omega
      rw [e1]
      exact ⟨(x / 4294967296, 32), (by repeat (first | exact trivial | refine ⟨rfl, ?_⟩)), rfl, by dsimp only; omega, Nat.le_refl _, Lib.bitLen_shift32 x (by omega) hx⟩
    · replace h := of_decide_eq_false h
      repeat (first | refine Vx ?_ | (apply Ops_q; (case hon => exact Va); (case hd => rfl); (case hq => exact YlA)) | refine Vr ?_ | refine Vt ?_ | refine Vf ?_ | refine Vm ?_ | refine Ve ?_ | refine Vo ?_ | refine Vz ?_ | refine Vn ?_)
      exact ⟨(x, 0), (by repeat (first | exact trivial | refine ⟨rfl, ?_⟩)), rfl, by dsimp only; omega, by dsimp only; omega, (Nat.zero_add _).symm⟩
  rintro ⟨y, e⟩ _ ⟨rfl, h1, h2, h3⟩
  dsimp only at h1 h2 h3 ⊢
  repeat (first | refine Vx ?_ | (apply Ops_q; (case hon => exact Va); (case hd => rfl); (case hq => exact YlA)) | refine Vr ?_ | refine Vt ?_ | refine Vf ?_ | refine Vm ?_ | refine Ve ?_ | refine Vo ?_ | refine Vz ?_ | refine Vn ?_)
  refine V_meet1 (fun s : Nat × Nat => [(0, .int .u64 s.1), (2, .int .i64 s.2)]) (fun s w' => w = w' ∧ s.1 < 65536 ∧ s.2 ≤ 48 ∧ Lib.bitLen x = s.2 + Lib.bitLen s.1) ?_ ?_
  · refine V_cond rfl (fun h => ?_) (fun h => ?_)
    · replace h := of_decide_eq_true h
      repeat (first | refine Vx ?_ | (apply Ops_q; (case hon => exact Va); (case hd => rfl); (case hq => exact YlA)) | refine Vr ?_ | refine Vt ?_ | refine Vf ?_ | refine Vm ?_ | refine Ve ?_ | refine Vo ?_ | refine Vz ?_ | refine Vn ?_)
      have e1 : (y : Int) / 2 ^ (16 : Int).toNat = ((y / 65536 : Nat) : Int) := by rw [p16]; omega
      rw [e1]
      have := Lib.bitLen_shift16 y (by omega) (by omega)
      exact ⟨(y / 65536, e + 16), (by repeat (first | exact trivial | refine ⟨rfl, ?_⟩)), rfl, by dsimp only; omega, by dsimp only; omega, by dsimp only; omega⟩
    · replace h := of_decide_eq_false h
      repeat (first | refine Vx ?_ | (apply Ops_q; (case hon => exact Va); (case hd => rfl); (case hq => exact YlA)) | refine Vr ?_ | refine Vt ?_ | refine Vf ?_ | refine Vm ?_ | refine Ve ?_ | refine Vo ?_ | refine Vz ?_ | refine Vn ?_)
      exact ⟨(y, e), (by repeat (first | exact trivial | refine ⟨rfl, ?_⟩)), rfl, by dsimp only; omega, by dsimp only; omega, h3⟩
  clear h1 h2 h3 y e
  rintro ⟨y, e⟩ _ ⟨rfl, h1, h2, h3⟩
  dsimp only at h1 h2 h3 ⊢
  repeat (first | refine Vx ?_ | (apply Ops_q; (case hon => exact Va); (case hd => rfl); (case hq => exact YlA)) | refine Vr ?_ | refine Vt ?_ | refine Vf ?_ | refine Vm ?_ | refine Ve ?_ | refine Vo ?_ | refine Vz ?_ | refine Vn ?_)
  refine V_meet1 (fun s : Nat × Nat => [(0, .int .u64 s.1), (2, .int .i64 s.2)]) (fun s w' => w = w' ∧ s.1 < 256 ∧ s.2 ≤ 56 ∧ Lib.bitLen x = s.2 + Lib.bitLen s.1) ?_ ?_
  · refine V_cond rfl (fun h => ?_) (fun h => ?_)
    · replace h := of_decide_eq_true h
      repeat (first | refine Vx ?_ | (apply Ops_q; (case hon => exact Va); (case hd => rfl); (case hq => exact YlA)) | refine Vr ?_ | refine Vt ?_ | refine Vf ?_ | refine Vm ?_ | refine Ve ?_ | refine Vo ?_ | refine Vz ?_ | refine Vn ?_)
      have e1 : (y : Int) / 2 ^ (8 : Int).toNat = ((y / 256 : Nat) : Int) := by rw [p8]; omega
      rw [e1]
      have := Lib.bitLen_shift8 y (by omega) (by omega)
      exact ⟨(y / 256, e + 8), (by repeat (first | exact trivial | refine ⟨rfl, ?_⟩)), rfl, by dsimp only; omega, by dsimp only; omega, by dsimp only; omega⟩
    · replace h := of_decide_eq_false h
      repeat (first | refine Vx ?_ | (apply Ops_q; (case hon => exact Va); (case hd => rfl); (case hq => exact YlA)) | refine Vr ?_ | refine Vt ?_ | refine Vf ?_ | refine Vm ?_ | refine Ve ?_ | refine Vo ?_ | refine Vz ?_ | refine Vn ?_)
      exact ⟨(y, e), (by repeat (first | exact trivial | refine ⟨rfl, ?_⟩)), rfl, by dsimp only; omega, by dsimp only; omega, h3⟩
  clear h1 h2 h3 y e
  rintro ⟨y, e⟩ _ ⟨rfl, h1, h2, h3⟩
  dsimp only at h1 h2 h3 ⊢
  have h8 := Lib.bitLen_le y 8 (by omega) (by omega)
  repeat (first | refine Vx ?_ | (apply Ops_q; (case hon => exact Va); (case hd => rfl); (case hq => exact YlA)) | refine Vr ?_ | refine Vt ?_ | refine Vf ?_ | refine Vm ?_ | refine Ve ?_ | refine Vo ?_ | refine Vz ?_ | refine Vn ?_)
  (apply Ops_q; (case hon => (first | exact on_none | exact on_guard rfl rfl)); (case hd => rfl); (case hq => exact Yl_len8 (by kernel_rfl) rfl rfl (by omega)))
  repeat (first | refine Vx ?_ | (apply Ops_q; (case hon => exact Va); (case hd => rfl); (case hq => exact YlA)) | refine Vr ?_ | refine Vt ?_ | refine Vf ?_ | refine Vm ?_ | refine Ve ?_ | refine Vo ?_ | refine Vz ?_ | refine Vn ?_)
  refine ret1 (by first | exact .inl rfl | exact .inr rfl) rfl rfl ?_
  exact Ret_w (by rw [h3]; rfl) (Ext.refl _)
theorem lenI_v (x : Nat) (w : World) (hx : x < 18446744073709551616) : Calls Try.prog 98 #[.int .u64 x] w (Ret (.int .i64 (Lib.bitLen x : Nat)) w) := by
  refine V_enter (vs := [_]) Try.func98 rfl Try.ntmps98 (Nat.le_of_ble_eq_true rfl) ?_
  repeat (first | refine Vx ?_ | (apply Ops_q; (case hon => exact Va); (case hd => rfl); (case hq => exact YlA)) | refine Vr ?_ | refine Vt ?_ | refine Vf ?_ | refine Vm ?_ | refine Ve ?_ | refine Vo ?_ | refine Vz ?_ | refine Vn ?_)
  (apply Ops_q; (case hon => (exact Va)); (case hd => rfl); (case hq => exact Yl_call rfl (fun w_ e_ => lenU_v x w_ hx)))
  repeat (first | refine Vx ?_ | (apply Ops_q; (case hon => exact Va); (case hd => rfl); (case hq => exact YlA)) | refine Vr ?_ | refine Vt ?_ | refine Vf ?_ | refine Vm ?_ | refine Ve ?_ | refine Vo ?_ | refine Vz ?_ | refine Vn ?_)
  refine ret1 (by first | exact .inl rfl | exact .inr rfl) rfl rfl ?_
  exact Ret_w rfl (Ext.refl _)
theorem nextPow_v (x : Nat) (w : World) (hx : x ≤ 1000000000000) : Calls Try.prog 123 #[.int .i64 x] w (Ret (.int .u64 (2 ^ Lib.bitLen x : Nat)) w) := by
  have hl := Lib.bitLen_le x 40 (by omega) (by omega)
  have hp : 2 ^ Lib.bitLen x ≤ 2 ^ 40 := Nat.pow_le_pow_right (by omega) hl
  have e : (1 : Int) * 2 ^ ((Lib.bitLen x : Nat) : Int).toNat = ((2 ^ Lib.bitLen x : Nat) : Int) := by rw [Int.one_mul, Int.toNat_natCast, Int.natCast_pow]; rfl
  have hk : InK .u64 ((1 : Int) * 2 ^ ((Lib.bitLen x : Nat) : Int).toNat) := by
    rw [e]
    generalize 2 ^ Lib.bitLen x = q at hp ⊢
    simp only [InK]; omega
  refine V_enter (vs := [_]) Try.func123 rfl Try.ntmps123 (Nat.le_of_ble_eq_true rfl) ?_
  repeat (first | refine Vx ?_ | (apply Ops_q; (case hon => exact Va); (case hd => rfl); (case hq => exact YlA)) | refine Vr ?_ | refine Vt ?_ | refine Vf ?_ | refine Vm ?_ | refine Ve ?_ | refine Vo ?_ | refine Vz ?_ | refine Vn ?_)
  (apply Ops_q; (case hon => (exact Va)); (case hd => rfl); (case hq => exact Yl_call rfl (fun w_ e_ => lenI_v x w_ (by omega))))
  repeat (first | refine Vx ?_ | (apply Ops_q; (case hon => exact Va); (case hd => rfl); (case hq => exact YlA)) | refine Vr ?_ | refine Vt ?_ | refine Vf ?_ | refine Vm ?_ | refine Ve ?_ | refine Vo ?_ | refine Vz ?_ | refine Vn ?_)
  refine ret1 (by first | exact .inl rfl | exact .inr rfl) rfl rfl ?_
  exact Ret_w (by rw [e]) (Ext.refl _)
theorem next_v (b : Nat) (t : TypeId) (v : Int) (w : World) (hB : Blk w b t [.int .u64 v]) :
    Calls Try.prog 124 #[.pointer (some ⟨b, 0, none⟩)] w (Does (fun c => c = b) (fun r w' => ∃ v' : Int, r = .int .u64 v' ∧ Blk w' b t [.int .u64 v']) w) := by
  refine V_enter (vs := [_]) Try.func124 rfl Try.ntmps124 (Nat.le_of_ble_eq_true rfl) ?_
  repeat (first | refine Vx ?_ | (apply Ops_q; (case hon => exact Va); (case hd => rfl); (case hq => exact YlA)) | refine Vt ?_ | refine Vf ?_ | refine Vm ?_ | refine Ve ?_ | refine Vo ?_ | refine Vz ?_ | refine Vn ?_)
  refine V_region_mixed 9 (by kernel_rfl) (by kernel_rfl) rfl ?_
  repeat (first | refine Vx ?_ | (apply Ops_q; (case hon => exact Va); (case hd => rfl); (case hq => exact YlA)) | refine Vr ?_ | refine Vt ?_ | refine Vf ?_ | refine Vm ?_ | refine Ve ?_ | refine Vo ?_ | refine Vz ?_ | refine Vn ?_)
  (refine Ops_store (by exact Va) rfl rfl hB (by rfl) ?_; intro w1 u1)
  have k1 := u1.blk
  have m1 : Mod (fun c => c = b) w w1 := (Mod.of_ext (S := fun c => c = b) (Ext.refl _)).upd u1 (.inl rfl)
  clear u1
  repeat (first | refine Vx ?_ | (apply Ops_q; (case hon => exact Va); (case hd => rfl); (case hq => exact YlA)) | refine Vt ?_ | refine Vf ?_ | refine Vm ?_ | refine Ve ?_ | refine Vo ?_ | refine Vz ?_ | refine Vn ?_)
  refine V_region_mixed 9 (by kernel_rfl) (by kernel_rfl) rfl ?_
  repeat (first | refine Vx ?_ | (apply Ops_q; (case hon => exact Va); (case hd => rfl); (case hq => exact YlA)) | refine Vr ?_ | refine Vt ?_ | refine Vf ?_ | refine Vm ?_ | refine Ve ?_ | refine Vo ?_ | refine Vz ?_ | refine Vn ?_)
  (refine Ops_store (by exact Va) rfl rfl k1 (by rfl) ?_; intro w2 u2)
  have k2 := u2.blk
  have m2 := m1.upd u2 (.inl rfl)
  clear u2 k1 m1
  repeat (first | refine Vx ?_ | (apply Ops_q; (case hon => exact Va); (case hd => rfl); (case hq => exact YlA)) | refine Vt ?_ | refine Vf ?_ | refine Vm ?_ | refine Ve ?_ | refine Vo ?_ | refine Vz ?_ | refine Vn ?_)
  refine V_region_mixed 9 (by kernel_rfl) (by kernel_rfl) rfl ?_
  repeat (first | refine Vx ?_ | (apply Ops_q; (case hon => exact Va); (case hd => rfl); (case hq => exact YlA)) | refine Vr ?_ | refine Vt ?_ | refine Vf ?_ | refine Vm ?_ | refine Ve ?_ | refine Vo ?_ | refine Vz ?_ | refine Vn ?_)
  (refine Ops_store (by exact Va) rfl rfl k2 (by rfl) ?_; intro w3 u3)
  have k3 := u3.blk
  have m3 := m2.upd u3 (.inl rfl)
  clear u3 k2 m2
  repeat (first | refine Vx ?_ | (apply Ops_q; (case hon => exact Va); (case hd => rfl); (case hq => exact YlA)) | refine Vr ?_ | refine Vt ?_ | refine Vf ?_ | refine Vm ?_ | refine Ve ?_ | refine Vo ?_ | refine Vz ?_ | refine Vn ?_)
  refine ret1 (by first | exact .inl rfl | exact .inr rfl) rfl rfl ?_
  exact Does_mk (fun w' he => ⟨_, rfl, k3.ext he⟩) m3
theorem and_le (x : Int) (m : Nat) (hm : m < 18446744073709551616) : ∃ c : Nat, bits .and .u64 x m = c ∧ c ≤ m := by
  have e : (BitVec.ofInt 64 (m : Int)).toNat = m := by rw [BitVec.toNat_ofInt]; omega
  have h := Nat.and_le_right (n := (BitVec.ofInt 64 x).toNat) (m := (BitVec.ofInt 64 (m : Int)).toNat)
  rw [← BitVec.toNat_and] at h
  refine ⟨_, wrap_in (k := .u64) ⟨?_, ?_⟩, Nat.le_trans h (Nat.le_of_eq e)⟩
  · exact Int.natCast_nonneg _
  · have this : (BitVec.ofInt 64 x &&& BitVec.ofInt 64 (m : Int)).toNat < 18446744073709551616 := BitVec.isLt _
    exact Int.ofNat_le.2 (Nat.le_of_lt_succ this)
section
variable {base g n cap : Nat}
set_option maxHeartbeats 2000000 in
theorem breakU_v (L : List Int) (a b : Nat) (w : World) (hD : DatU w base g n cap L) (hn : n ≤ 1000000000000) (hb : b ≤ n) (hab : a + 12 < b) :
    Calls Try.prog 112 #[.slice (some ⟨g, 0, none⟩) n cap, .int .i64 a, .int .i64 b] w
      (Does (BlkU g) (DatV base g n cap (fun r L' => r = .tuple #[] ∧ Moved L L' a b)) w) := by
  have hg := hD.own.lt (b := g) rfl
  obtain ⟨l, rfl⟩ : ∃ l, b = a + l := ⟨b - a, by omega⟩
  have hl : ((a + l : Nat) : Int) - (a : Int) = (l : Int) := by omega
  obtain ⟨z, hz⟩ : ∃ z, a + l / 4 * 2 = z + 1 := ⟨a + l / 4 * 2 - 1, by omega⟩
  have ez : (a : Int) + (l : Int) / 4 * 2 = ((z + 1 : Nat) : Int) := by omega
  have e1 : ((z + 1 : Nat) : Int) - 1 = (z : Int) := by omega
  obtain ⟨hm1, hm2⟩ := bitLen_spec l (by omega)
  have hm2 := hm2 (by omega)
  have hnp := fun w_ => nextPow_v l w_ (by omega)
  obtain ⟨m1, hmd⟩ : ∃ m1, 2 ^ Lib.bitLen l = m1 + 1 := ⟨2 ^ Lib.bitLen l - 1, by omega⟩
  rw [hmd] at hm1 hm2 hnp
  have e2 : ((m1 + 1 : Nat) : Int) - 1 = (m1 : Int) := by omega
  refine V_enter (vs := [_, _, _]) Try.func112 rfl Try.ntmps112 (Nat.le_of_ble_eq_true rfl) ?_
  repeat (first | refine Vx ?_ | (apply Ops_q; (case hon => exact Va); (case hd => rfl); (case hq => exact YlA)) | refine Vr ?_ | refine Vt ?_ | refine Vf ?_ | refine Vm ?_ | refine Ve ?_ | refine Vo ?_ | refine Vz ?_ | refine Vn ?_)
  rw [hl]
  refine V_yes rfl (decide_eq_true (by omega : (8 : Int) ≤ (l : Int))) ?_
  repeat (first | refine Vx ?_ | (apply Ops_q; (case hon => exact Va); (case hd => rfl); (case hq => exact YlA)) | refine Vr ?_ | refine Vt ?_ | refine Vf ?_ | refine Vm ?_ | refine Ve ?_ | refine Vo ?_ | refine Vz ?_ | refine Vn ?_)
  (refine Ops_alloc (by exact Va) rfl ?_; intro w1 br n_br; have k_br := n_br.blk)
  have hgb : g ≠ br := by have := n_br.ge; omega
  have hbw := n_br.ge
  repeat (first | refine Vx ?_ | (apply Ops_q; (case hon => exact Va); (case hd => rfl); (case hq => exact YlA)) | refine Vr ?_ | refine Vt ?_ | refine Vf ?_ | refine Vm ?_ | refine Ve ?_ | refine Vo ?_ | refine Vz ?_ | refine Vn ?_)
  (refine Ops_store (by exact Va) rfl rfl (by assumption) (by first | rfl | exact OneAll.h) ?_; intro w2 u_w2; have k_br := u_w2.blk)
  have m2 : Mod (BlkU g) w w2 := (Mod.of_ext n_br.ext).upd u_w2 (.inr hbw)
  have D2 : DatU w2 base g n cap L := (hD.ext n_br.ext).mod ((Mod.of_ext (S := fun c => c = br) (Ext.refl _)).upd u_w2 (.inl rfl)) hgb
  clear u_w2
  repeat (first | refine Vx ?_ | (apply Ops_q; (case hon => exact Va); (case hd => rfl); (case hq => exact YlA)) | refine Vr ?_ | refine Vt ?_ | refine Vf ?_ | refine Vm ?_ | refine Ve ?_ | refine Vo ?_ | refine Vz ?_ | refine Vn ?_)
  (apply Ops_q; (case hon => (exact Va)); (case hd => rfl); (case hq => exact Yl_call rfl (fun w_ e_ => hnp w_)))
  repeat (first | refine Vx ?_ | (apply Ops_q; (case hon => exact Va); (case hd => rfl); (case hq => exact YlA)) | refine Vr ?_ | refine Vt ?_ | refine Vf ?_ | refine Vm ?_ | refine Ve ?_ | refine Vo ?_ | refine Vz ?_ | refine Vn ?_)
  rw [ez]
  repeat (first | refine Vx ?_ | (apply Ops_q; (case hon => exact Va); (case hd => rfl); (case hq => exact YlA)) | refine Vr ?_ | refine Vt ?_ | refine Vf ?_ | refine Vm ?_ | refine Ve ?_ | refine Vo ?_ | refine Vz ?_ | refine Vn ?_)
  rw [e1]
  refine V_loop (fun s : Nat × List Int × Int => [(9, .int .i64 s.1), (8, .int .u64 (m1 + 1 : Nat)), (7, .pointer (some ⟨br, 0, none⟩)), (6, .int .i64 l), (0, .slice (some ⟨g, 0, none⟩) n cap), (1, .int .i64 a)])
    (fun s w' => z ≤ s.1 ∧ s.1 ≤ z + 3 ∧ Mod (BlkU g) w w' ∧ DatU w' base g n cap s.2.1 ∧ Moved L s.2.1 a (a + l) ∧ Blk w' br 175 [.int .u64 s.2.2]) (fun s => z + 3 - s.1) (z, L, l) (by repeat (first | exact trivial | refine ⟨rfl, ?_⟩))
    ⟨Nat.le_refl _, by dsimp only; omega, m2, D2, Moved.refl .., k_br⟩ ?_
  clear m2 D2 k_br hD n_br
  rintro ⟨i, M, v⟩ w3 ⟨h1, h2, m3, D3, hM, k3⟩
  dsimp only at h1 h2 D3 hM k3 ⊢
  repeat (first | refine Vx ?_ | (apply Ops_q; (case hon => exact Va); (case hd => rfl); (case hq => exact YlA)) | refine Vr ?_ | refine Vt ?_ | refine Vf ?_ | refine Vm ?_ | refine Ve ?_ | refine Vo ?_ | refine Vz ?_ | refine Vn ?_)
  rw [ez]
  repeat (first | refine Vx ?_ | (apply Ops_q; (case hon => exact Va); (case hd => rfl); (case hq => exact YlA)) | refine Vr ?_ | refine Vt ?_ | refine Vf ?_ | refine Vm ?_ | refine Ve ?_ | refine Vo ?_ | refine Vz ?_ | refine Vn ?_)
  refine V_cond rfl (fun hi => ?_) (fun hi => ?_)
  · replace hi := of_decide_eq_true hi
    repeat (first | refine Vx ?_ | (apply Ops_q; (case hon => exact Va); (case hd => rfl); (case hq => exact YlA)) | refine Vr ?_ | refine Vt ?_ | refine Vf ?_ | refine Vm ?_ | refine Ve ?_ | refine Vo ?_ | refine Vz ?_ | refine Vn ?_)
    refine Ops_callM (S := fun c => c = br) (R := fun _ r w' => ∃ v' : Int, r = .int .u64 v' ∧ Blk w' br 175 [.int .u64 v']) (by exact Va) rfl rfl (fun w_ e_ => next_v br 175 v w_ (k3.ext e_)) ?_
    intro r w4 w0_ e0 m4 hR
    obtain ⟨v', rfl, k4⟩ := hR
    have D4 := (D3.ext e0).mod m4 hgb
    have m40 : Mod (BlkU g) w w4 := (m3.ext e0).trans' m4 (fun c hc => .inr (by rw [hc]; exact hbw))
    clear m3 D3 k3 m4 e0
    obtain ⟨c, hc, hcm⟩ := and_le v' m1 (by omega)
    repeat (first | refine Vx ?_ | (apply Ops_q; (case hon => exact Va); (case hd => rfl); (case hq => exact YlA)) | refine Vr ?_ | refine Vt ?_ | refine Vf ?_ | refine Vm ?_ | refine Ve ?_ | refine Vo ?_ | refine Vz ?_ | refine Vn ?_)
    rw [e2]
    repeat (first | refine Vx ?_ | (apply Ops_q; (case hon => exact Va); (case hd => rfl); (case hq => exact YlA)) | refine Vr ?_ | refine Vt ?_ | refine Vf ?_ | refine Vm ?_ | refine Ve ?_ | refine Vo ?_ | refine Vz ?_ | refine Vn ?_)
    rw [hc, wrap_in (show InK .i64 (c : Int) by simp only [InK]; omega)]
    repeat (first | refine Vx ?_ | (apply Ops_q; (case hon => exact Va); (case hd => rfl); (case hq => exact YlA)) | refine Vr ?_ | refine Vt ?_ | refine Vf ?_ | refine Vm ?_ | refine Ve ?_ | refine Vo ?_ | refine Vz ?_ | refine Vn ?_)
    refine V_meet1 (fun o : Nat => [(10, .int .i64 o), (9, .int .i64 i), (8, .int .u64 (m1 + 1 : Nat)), (7, .pointer (some ⟨br, 0, none⟩)), (6, .int .i64 l), (0, .slice (some ⟨g, 0, none⟩) n cap), (1, .int .i64 a)])
      (fun o w' => w4 = w' ∧ o < l) ?_ ?_
    · refine V_cond rfl (fun h5 => ?_) (fun h5 => ?_)
      · replace h5 := of_decide_eq_true h5
        repeat (first | refine Vx ?_ | (apply Ops_q; (case hon => exact Va); (case hd => rfl); (case hq => exact YlA)) | refine Vr ?_ | refine Vt ?_ | refine Vf ?_ | refine Vm ?_ | refine Ve ?_ | refine Vo ?_ | refine Vz ?_ | refine Vn ?_)
        have e3 : (c : Int) - (l : Int) = ((c - l : Nat) : Int) := by omega
        rw [e3]
        exact ⟨c - l, (by repeat (first | exact trivial | refine ⟨rfl, ?_⟩)), rfl, by omega⟩
      · replace h5 := of_decide_eq_false h5
        repeat (first | refine Vx ?_ | (apply Ops_q; (case hon => exact Va); (case hd => rfl); (case hq => exact YlA)) | refine Vr ?_ | refine Vt ?_ | refine Vf ?_ | refine Vm ?_ | refine Ve ?_ | refine Vo ?_ | refine Vz ?_ | refine Vn ?_)
        exact ⟨c, (by repeat (first | exact trivial | refine ⟨rfl, ?_⟩)), rfl, by omega⟩
    rintro o _ ⟨rfl, ho⟩
    have hMl := D4.len
    obtain ⟨x, hx⟩ := D4.get (k := i) (by omega)
    obtain ⟨y, hy⟩ := D4.get (k := a + o) (by omega)
    have hcx := D4.at hx
    have hcy := D4.at hy
    have e5 : (a : Int) + (o : Int) = ((a + o : Nat) : Int) := by omega
    repeat (first | refine Vx ?_ | (apply Ops_q; (case hon => exact Va); (case hd => rfl); (case hq => exact YlA)) | refine Vt ?_ | refine Vf ?_ | refine Vm ?_ | refine Ve ?_ | refine Vo ?_ | refine Vz ?_ | refine Vn ?_)
    refine V_store (R := fun w' => DatU w' base g n cap (M.set i y) ∧ Mod (fun c => c = g) w4 w') 18 17 (fun _ _ he h => ⟨h.1.ext he, h.2.ext he⟩) (by kernel_rfl) rfl (by kernel_rfl) ?_
    repeat (first
      | (refine YsS.pure rfl rfl rfl rfl rfl (fun w_ => (by first | exact Yl_move rfl | exact Yl_pred rfl rfl (by omega) | exact Yl_arith_in rfl rfl rfl (by first | assumption | (simp only [InK]; omega)))) ?_)
      | (refine YsS.load rfl rfl rfl rfl rfl (by first | exact Yl_load rfl hcx | exact Yl_load rfl hcy) ?_))
    refine YsS.pure rfl rfl rfl rfl rfl (fun w_ => Yl_indexS (j := (a+o)) rfl rfl (by omega)) ?_
    repeat (first
      | (refine YsS.pure rfl rfl rfl rfl rfl (fun w_ => (by first | exact Yl_move rfl | exact Yl_pred rfl rfl (by omega) | exact Yl_arith_in rfl rfl rfl (by first | assumption | (simp only [InK]; omega)))) ?_)
      | (refine YsS.load rfl rfl rfl rfl rfl (by first | exact Yl_load rfl hcx | exact Yl_load rfl hcy) ?_))
    refine YsS.pure rfl rfl rfl rfl rfl (fun w_ => Yl_indexS (j := i) rfl rfl (by omega)) ?_
    repeat (first
      | (refine YsS.pure rfl rfl rfl rfl rfl (fun w_ => (by first | exact Yl_move rfl | exact Yl_pred rfl rfl (by omega) | exact Yl_arith_in rfl rfl rfl (by first | assumption | (simp only [InK]; omega)))) ?_)
      | (refine YsS.load rfl rfl rfl rfl rfl (by first | exact Yl_load rfl hcx | exact Yl_load rfl hcy) ?_))
    refine YsS.pure rfl rfl rfl rfl rfl (fun w_ => Yl_indexS (j := i) rfl rfl (by omega)) ?_
    refine YsS.nil rfl ⟨fun a_ ag_ w_ hw_ => storeDatU_run (i := i) (v := y) rfl rfl rfl D4 (by omega) a_ ag_ w_ hw_, ?_⟩
    repeat (first
      | (refine YsS.pure rfl rfl rfl rfl rfl (fun w_ => (by first | exact Yl_move rfl | exact Yl_pred rfl rfl (by omega) | exact Yl_arith_in rfl rfl rfl (by first | assumption | (simp only [InK]; omega)))) ?_)
      | (refine YsS.load rfl rfl rfl rfl rfl (by first | exact Yl_load rfl hcx | exact Yl_load rfl hcy) ?_))
    refine YsS.nil rfl ?_
    rintro w5 ⟨D5, m5⟩
    repeat (first | refine Vx ?_ | (apply Ops_q; (case hon => exact Va); (case hd => rfl); (case hq => exact YlA)) | refine Vr ?_ | refine Vt ?_ | refine Vf ?_ | refine Vm ?_ | refine Ve ?_ | refine Vo ?_ | refine Vz ?_ | refine Vn ?_)
    rw [e5]
    (apply Ops_q; (case hon => (exact Va)); (case hd => rfl); (case hq => exact Yl_indexS (j := (a + o)) rfl rfl (by omega)))
    repeat (first | refine Vx ?_ | (apply Ops_q; (case hon => exact Va); (case hd => rfl); (case hq => exact YlA)) | refine Vr ?_ | refine Vt ?_ | refine Vf ?_ | refine Vm ?_ | refine Ve ?_ | refine Vo ?_ | refine Vz ?_ | refine Vn ?_)
    refine Ops_storeDatU (i := a + o) (v := x) (by exact Va) rfl rfl rfl D5 (by omega) ?_
    intro w6 D6 g6
    have m46 : Mod (BlkU g) w4 w6 := m5.grow g6 (fun b hb => .inl (by cases hb; rfl))
    have k6 := m46.blk k4 (fun e => hgb e.symm)
    have hsw : (M.set i y).set (a + o) x = swp M i (a + o) := by unfold swp; rw [hx, hy]
    rw [hsw] at D6
    repeat (first | refine Vx ?_ | (apply Ops_q; (case hon => exact Va); (case hd => rfl); (case hq => exact YlA)) | refine Vr ?_ | refine Vt ?_ | refine Vf ?_ | refine Vm ?_ | refine Ve ?_ | refine Vo ?_ | refine Vz ?_ | refine Vn ?_)
    refine ⟨(i + 1, swp M i (a + o), v'), (by repeat (first | exact trivial | refine ⟨rfl, ?_⟩)), ⟨by dsimp only; omega, by dsimp only; omega, m40.trans m46, D6, hM.trans (Moved.swp (by omega) (by omega) (by omega)), k6⟩, by simp only; omega⟩
  · repeat (first | refine Vx ?_ | (apply Ops_q; (case hon => exact Va); (case hd => rfl); (case hq => exact YlA)) | refine Vr ?_ | refine Vt ?_ | refine Vf ?_ | refine Vm ?_ | refine Ve ?_ | refine Vo ?_ | refine Vz ?_ | refine Vn ?_)
    refine ret0 (by first | exact .inl rfl | exact .inr rfl) rfl ?_
    exact Does_mk (fun w' he => ⟨M, D3.ext he, rfl, hM⟩) m3
end
end Go.Proofs.Ytjpnaofoeeegeaa


/-
  Sorting words (slices.Sort at uint64): pdqsort, Sort.
  Conditions: the list is one's own, and not too long for a machine.
-/
namespace Go.Proofs.Ytjpnaofoeeegeaa
open Go.RowKit

section
variable {base g n cap : Nat}
set_option maxHeartbeats 4000000 in
theorem pdqU_v (hn : n ≤ 1000000000000) : ∀ (k : Nat) (L : List Int) (a0 b0 lim0 : Nat) (w : World), b0 - a0 ≤ k → DatU w base g n cap L → b0 ≤ n → a0 ≤ b0 → Pre2 L a0 b0 → lim0 ≤ 64 →
    Calls Try.prog 97 #[.slice (some ⟨g, 0, none⟩) n cap, .int .i64 a0, .int .i64 b0, .int .i64 lim0] w
      (Does (BlkU g) (DatV base g n cap (fun r L' => r = .tuple #[] ∧ Moved L L' a0 b0 ∧ Asc ltU L' a0 b0)) w) := by
  intro k
  induction k using Nat.strongRecOn with
  | ind k ih =>
  intro L a0 b0 lim0 w hk hD hb0 hab0 hpre hlim
  refine V_enter (vs := [_, _, _, _]) Try.func97 rfl Try.ntmps97 (Nat.le_of_ble_eq_true rfl) ?_
  repeat (first | refine Vx ?_ | (apply Ops_q; (case hon => exact Va); (case hd => rfl); (case hq => exact YlA)) | refine Vr ?_ | refine Vt ?_ | refine Vf ?_ | refine Vm ?_ | refine Ve ?_ | refine Vo ?_ | refine Vz ?_ | refine Vn ?_)
  refine V_loop (fun s : Nat × Nat × Nat × Bool × Bool × List Int => [(1, .int .i64 s.1), (2, .int .i64 s.2.1), (3, .int .i64 s.2.2.1), (8, .bool s.2.2.2.1), (9, .bool s.2.2.2.2.1), (0, .slice (some ⟨g, 0, none⟩) n cap)])
    (fun s w' => s.2.2.1 ≤ 64 ∧ Mod (BlkU g) w w' ∧ DatU w' base g n cap s.2.2.2.2.2 ∧ PdS ltU L s.2.2.2.2.2 a0 s.1 s.2.1 b0) (fun s => s.2.1 - s.1) (a0, b0, lim0, true, true, L) (by repeat (first | exact trivial | refine ⟨rfl, ?_⟩))
    ⟨hlim, .of_ext (Ext.refl _), hD, PdS.start hab0 hpre⟩ ?_
  clear hD hab0 hpre hlim
  rintro ⟨a, b, lim, bal, part, M⟩ w3 ⟨hlim, m3, D3, hP⟩
  dsimp only at hlim D3 hP ⊢
  have hab := hP.h2
  have ha0 := hP.h1
  have hbb := hP.h3
  obtain ⟨l, hbl⟩ : ∃ l, b = a + l := ⟨b - a, by omega⟩
  have hl : (b : Int) - (a : Int) = (l : Int) := by omega
  repeat (first | refine Vx ?_ | (apply Ops_q; (case hon => exact Va); (case hd => rfl); (case hq => exact YlA)) | refine Vr ?_ | refine Vt ?_ | refine Vf ?_ | refine Vm ?_ | refine Ve ?_ | refine Vo ?_ | refine Vz ?_ | refine Vn ?_)
  rw [hl]
  refine V_cond rfl (fun h12 => ?_) (fun h12 => ?_)
  · replace h12 := of_decide_eq_true h12
    repeat (first | refine Vx ?_ | (apply Ops_q; (case hon => exact Va); (case hd => rfl); (case hq => exact YlA)) | refine Vr ?_ | refine Vt ?_ | refine Vf ?_ | refine Vm ?_ | refine Ve ?_ | refine Vo ?_ | refine Vz ?_ | refine Vn ?_)
    refine Ops_callM (S := BlkU g) (R := fun _ => DatV base g n cap (fun r L' => r = .tuple #[] ∧ Moved M L' a b ∧ Asc ltU L' a b)) (by exact Va) rfl rfl (fun w_ e_ => insertionU_v M a b w_ (D3.ext e_) hn (by omega) (by omega)) ?_
    intro r w5 w0_ e0 m5 hR
    obtain ⟨M5, D5, rfl, hM5, hA5⟩ := hR
    repeat (first | refine Vx ?_ | (apply Ops_q; (case hon => exact Va); (case hd => rfl); (case hq => exact YlA)) | refine Vr ?_ | refine Vt ?_ | refine Vf ?_ | refine Vm ?_ | refine Ve ?_ | refine Vo ?_ | refine Vz ?_ | refine Vn ?_)
    refine ret0 (by first | exact .inl rfl | exact .inr rfl) rfl ?_
    exact Does_mk (fun w' he => ⟨_, D5.ext he, rfl, (hP.move hM5).mv, (hP.move hM5).fin hA5⟩) ((m3.ext e0).trans m5)
  replace h12 := of_decide_eq_false h12
  repeat (first | refine Vx ?_ | (apply Ops_q; (case hon => exact Va); (case hd => rfl); (case hq => exact YlA)) | refine Vr ?_ | refine Vt ?_ | refine Vf ?_ | refine Vm ?_ | refine Ve ?_ | refine Vo ?_ | refine Vz ?_ | refine Vn ?_)
  refine V_cond rfl (fun h0 => ?_) (fun h0 => ?_)
  · repeat (first | refine Vx ?_ | (apply Ops_q; (case hon => exact Va); (case hd => rfl); (case hq => exact YlA)) | refine Vr ?_ | refine Vt ?_ | refine Vf ?_ | refine Vm ?_ | refine Ve ?_ | refine Vo ?_ | refine Vz ?_ | refine Vn ?_)
    refine Ops_callM (S := BlkU g) (R := fun _ => DatV base g n cap (fun r L' => r = .tuple #[] ∧ Moved M L' a b ∧ Asc ltU L' a b)) (by exact Va) rfl rfl (fun w_ e_ => heapU_v M a b w_ (D3.ext e_) hn (by omega) (by omega)) ?_
    intro r w5 w0_ e0 m5 hR
    obtain ⟨M5, D5, rfl, hM5, hA5⟩ := hR
    repeat (first | refine Vx ?_ | (apply Ops_q; (case hon => exact Va); (case hd => rfl); (case hq => exact YlA)) | refine Vr ?_ | refine Vt ?_ | refine Vf ?_ | refine Vm ?_ | refine Ve ?_ | refine Vo ?_ | refine Vz ?_ | refine Vn ?_)
    refine ret0 (by first | exact .inl rfl | exact .inr rfl) rfl ?_
    exact Does_mk (fun w' he => ⟨_, D5.ext he, rfl, (hP.move hM5).mv, (hP.move hM5).fin hA5⟩) ((m3.ext e0).trans m5)
  replace h0 := of_decide_eq_false h0
  repeat (first | refine Vx ?_ | (apply Ops_q; (case hon => exact Va); (case hd => rfl); (case hq => exact YlA)) | refine Vr ?_ | refine Vt ?_ | refine Vf ?_ | refine Vm ?_ | refine Ve ?_ | refine Vo ?_ | refine Vz ?_ | refine Vn ?_)
  refine V_meet1 (fun s : Nat × List Int => [(1, .int .i64 a), (2, .int .i64 b), (3, .int .i64 s.1), (8, .bool bal), (9, .bool part), (10, .int .i64 l), (0, .slice (some ⟨g, 0, none⟩) n cap)])
    (fun s w' => s.1 ≤ 64 ∧ Mod (BlkU g) w w' ∧ DatU w' base g n cap s.2 ∧ PdS ltU L s.2 a0 a b b0) ?_ ?_
  · refine V_cond rfl (fun hb => ?_) (fun hb => ?_)
    · obtain ⟨lm, rfl⟩ : ∃ q, lim = q + 1 := ⟨lim - 1, by omega⟩
      have el : ((lm + 1 : Nat) : Int) - 1 = (lm : Int) := by omega
      repeat (first | refine Vx ?_ | (apply Ops_q; (case hon => exact Va); (case hd => rfl); (case hq => exact YlA)) | refine Vr ?_ | refine Vt ?_ | refine Vf ?_ | refine Vm ?_ | refine Ve ?_ | refine Vo ?_ | refine Vz ?_ | refine Vn ?_)
      refine Ops_callM (S := BlkU g) (R := fun _ => DatV base g n cap (fun r L' => r = .tuple #[] ∧ Moved M L' a b)) (by exact Va) rfl rfl (fun w_ e_ => breakU_v M a b w_ (D3.ext e_) hn (by omega) (by omega)) ?_
      intro r w5 w0_ e0 m5 hR
      obtain ⟨M5, D5, rfl, hM5⟩ := hR
      repeat (first | refine Vx ?_ | (apply Ops_q; (case hon => exact Va); (case hd => rfl); (case hq => exact YlA)) | refine Vr ?_ | refine Vt ?_ | refine Vf ?_ | refine Vm ?_ | refine Ve ?_ | refine Vo ?_ | refine Vz ?_ | refine Vn ?_)
      rw [el]
      exact ⟨(lm, M5), (by repeat (first | exact trivial | refine ⟨rfl, ?_⟩)), by dsimp only; omega, (m3.ext e0).trans m5, D5, hP.move hM5⟩
    · repeat (first | refine Vx ?_ | (apply Ops_q; (case hon => exact Va); (case hd => rfl); (case hq => exact YlA)) | refine Vr ?_ | refine Vt ?_ | refine Vf ?_ | refine Vm ?_ | refine Ve ?_ | refine Vo ?_ | refine Vz ?_ | refine Vn ?_)
      exact ⟨(lim, M), (by repeat (first | exact trivial | refine ⟨rfl, ?_⟩)), hlim, m3, D3, hP⟩
  clear hlim m3 D3 hP h0
  rintro ⟨lim, M⟩ w3 ⟨hlim, m3, D3, hP⟩
  dsimp only at hlim D3 hP ⊢
  repeat (first | refine Vx ?_ | (apply Ops_q; (case hon => exact Va); (case hd => rfl); (case hq => exact YlA)) | refine Vr ?_ | refine Vt ?_ | refine Vf ?_ | refine Vm ?_ | refine Ve ?_ | refine Vo ?_ | refine Vz ?_ | refine Vn ?_)
  (refine Ops_callR (by exact Va) rfl rfl (fun w_ e_ => choosePivot_v M a b w_ (D3.ext e_) hn (by omega) (by omega)) ?_; intro v w4 w0_ e0_ e1_ r_v; have e_w4 := e0_.trans e1_; have b_v := e0_.size; clear e0_ e1_)
  obtain ⟨p, h, rfl, hp1, hp2⟩ := r_v
  have D4 := D3.ext e_w4
  have m4 := m3.ext e_w4
  clear D3 m3 e_w4 b_v
  repeat (first | refine Vx ?_ | (apply Ops_q; (case hon => exact Va); (case hd => rfl); (case hq => exact YlA)) | refine Vr ?_ | refine Vt ?_ | refine Vf ?_ | refine Vm ?_ | refine Ve ?_ | refine Vo ?_ | refine Vz ?_ | refine Vn ?_)
  refine V_meet1 (fun s : Nat × Int × List Int => [(11, .int .i64 s.1), (12, .int .i64 s.2.1), (1, .int .i64 a), (2, .int .i64 b), (3, .int .i64 lim), (8, .bool bal), (9, .bool part), (10, .int .i64 l), (0, .slice (some ⟨g, 0, none⟩) n cap)])
    (fun s w' => a ≤ s.1 ∧ s.1 < b ∧ Mod (BlkU g) w w' ∧ DatU w' base g n cap s.2.2 ∧ PdS ltU L s.2.2 a0 a b b0) ?_ ?_
  · refine V_cond rfl (fun hh => ?_) (fun hh => ?_)
    · repeat (first | refine Vx ?_ | (apply Ops_q; (case hon => exact Va); (case hd => rfl); (case hq => exact YlA)) | refine Vr ?_ | refine Vt ?_ | refine Vf ?_ | refine Vm ?_ | refine Ve ?_ | refine Vo ?_ | refine Vz ?_ | refine Vn ?_)
      refine Ops_callM (S := BlkU g) (R := fun _ => DatV base g n cap (fun r L' => r = .tuple #[] ∧ Moved M L' a b)) (by exact Va) rfl rfl (fun w_ e_ => reverse_v M a b w_ (D4.ext e_) hn (by omega) (by omega)) ?_
      intro r w5 w0_ e0 m5 hR
      obtain ⟨M5, D5, rfl, hM5⟩ := hR
      have ep : (b : Int) - 1 - ((p : Int) - (a : Int)) = ((b - 1 - (p - a) : Nat) : Int) := by omega
      repeat (first | refine Vx ?_ | (apply Ops_q; (case hon => exact Va); (case hd => rfl); (case hq => exact YlA)) | refine Vr ?_ | refine Vt ?_ | refine Vf ?_ | refine Vm ?_ | refine Ve ?_ | refine Vo ?_ | refine Vz ?_ | refine Vn ?_)
      rw [ep]
      exact ⟨(b - 1 - (p - a), 1, M5), (by repeat (first | exact trivial | refine ⟨rfl, ?_⟩)), by dsimp only; omega, by dsimp only; omega, (m4.ext e0).trans m5, D5, hP.move hM5⟩
    · repeat (first | refine Vx ?_ | (apply Ops_q; (case hon => exact Va); (case hd => rfl); (case hq => exact YlA)) | refine Vr ?_ | refine Vt ?_ | refine Vf ?_ | refine Vm ?_ | refine Ve ?_ | refine Vo ?_ | refine Vz ?_ | refine Vn ?_)
      exact ⟨(p, h, M), (by repeat (first | exact trivial | refine ⟨rfl, ?_⟩)), hp1, hp2, m4, D4, hP⟩
  clear hp1 hp2 m4 D4 hP
  rintro ⟨p, h, M⟩ w3 ⟨hp1, hp2, m3, D3, hP⟩
  dsimp only at hp1 hp2 D3 hP ⊢
  repeat (first | refine Vx ?_ | (apply Ops_q; (case hon => exact Va); (case hd => rfl); (case hq => exact YlA)) | refine Vr ?_ | refine Vt ?_ | refine Vf ?_ | refine Vm ?_ | refine Ve ?_ | refine Vo ?_ | refine Vz ?_ | refine Vn ?_)
  refine Ops_meet [(68, .bool (bal && (part && decide (h = 1)))), (11, .int .i64 p), (1, .int .i64 a), (2, .int .i64 b), (3, .int .i64 lim), (8, .bool bal), (9, .bool part), (10, .int .i64 l), (0, .slice (some ⟨g, 0, none⟩) n cap)] ?_ ?_
  · cases bal
    · repeat (first | refine Vx ?_ | (apply Ops_q; (case hon => exact Va); (case hd => rfl); (case hq => exact YlA)) | refine Vr ?_ | refine Vt ?_ | refine Vf ?_ | refine Vm ?_ | refine Ve ?_ | refine Vo ?_ | refine Vz ?_ | refine Vn ?_)
      exact ⟨⟨rfl, (by repeat (first | exact trivial | refine ⟨rfl, ?_⟩))⟩, rfl⟩
    · cases part
      · repeat (first | refine Vx ?_ | (apply Ops_q; (case hon => exact Va); (case hd => rfl); (case hq => exact YlA)) | refine Vr ?_ | refine Vt ?_ | refine Vf ?_ | refine Vm ?_ | refine Ve ?_ | refine Vo ?_ | refine Vz ?_ | refine Vn ?_)
        exact ⟨⟨rfl, (by repeat (first | exact trivial | refine ⟨rfl, ?_⟩))⟩, rfl⟩
      · repeat (first | refine Vx ?_ | (apply Ops_q; (case hon => exact Va); (case hd => rfl); (case hq => exact YlA)) | refine Vr ?_ | refine Vt ?_ | refine Vf ?_ | refine Vm ?_ | refine Ve ?_ | refine Vo ?_ | refine Vz ?_ | refine Vn ?_)
        exact ⟨⟨rfl, (by repeat (first | exact trivial | refine ⟨rfl, ?_⟩))⟩, rfl⟩
  repeat (first | refine Vx ?_ | (apply Ops_q; (case hon => exact Va); (case hd => rfl); (case hq => exact YlA)) | refine Vr ?_ | refine Vt ?_ | refine Vf ?_ | refine Vm ?_ | refine Ve ?_ | refine Vo ?_ | refine Vz ?_ | refine Vn ?_)
  refine V_meet1 (fun M : List Int => [(11, .int .i64 p), (1, .int .i64 a), (2, .int .i64 b), (3, .int .i64 lim), (8, .bool bal), (9, .bool part), (10, .int .i64 l), (0, .slice (some ⟨g, 0, none⟩) n cap)])
    (fun M w' => Mod (BlkU g) w w' ∧ DatU w' base g n cap M ∧ PdS ltU L M a0 a b b0) ?_ ?_
  · refine V_cond rfl (fun ht => ?_) (fun ht => ?_)
    · repeat (first | refine Vx ?_ | (apply Ops_q; (case hon => exact Va); (case hd => rfl); (case hq => exact YlA)) | refine Vr ?_ | refine Vt ?_ | refine Vf ?_ | refine Vm ?_ | refine Ve ?_ | refine Vo ?_ | refine Vz ?_ | refine Vn ?_)
      refine Ops_callM (S := BlkU g) (R := fun _ => DatV base g n cap (fun r L' => ∃ o : Bool, r = .bool o ∧ Moved M L' a b ∧ (o = true → Asc ltU L' a b))) (by exact Va) rfl rfl (fun w_ e_ => partialU_v M a b w_ (D3.ext e_) hn (by omega) (by omega) hP.pre') ?_
      intro r w5 w0_ e0 m5 hR
      obtain ⟨M5, D5, o, rfl, hM5, hA5⟩ := hR
      repeat (first | refine Vx ?_ | (apply Ops_q; (case hon => exact Va); (case hd => rfl); (case hq => exact YlA)) | refine Vr ?_ | refine Vt ?_ | refine Vf ?_ | refine Vm ?_ | refine Ve ?_ | refine Vo ?_ | refine Vz ?_ | refine Vn ?_)
      refine V_cond rfl (fun ho => ?_) (fun ho => ?_)
      · replace hA5 := hA5 ho
        repeat (first | refine Vx ?_ | (apply Ops_q; (case hon => exact Va); (case hd => rfl); (case hq => exact YlA)) | refine Vr ?_ | refine Vt ?_ | refine Vf ?_ | refine Vm ?_ | refine Ve ?_ | refine Vo ?_ | refine Vz ?_ | refine Vn ?_)
        refine ret0 (by first | exact .inl rfl | exact .inr rfl) rfl ?_
        exact Does_mk (fun w' he => ⟨_, D5.ext he, rfl, (hP.move hM5).mv, (hP.move hM5).fin hA5⟩) ((m3.ext e0).trans m5)
      · repeat (first | refine Vx ?_ | (apply Ops_q; (case hon => exact Va); (case hd => rfl); (case hq => exact YlA)) | refine Vr ?_ | refine Vt ?_ | refine Vf ?_ | refine Vm ?_ | refine Ve ?_ | refine Vo ?_ | refine Vz ?_ | refine Vn ?_)
        exact ⟨M5, (by repeat (first | exact trivial | refine ⟨rfl, ?_⟩)), (m3.ext e0).trans m5, D5, hP.move hM5⟩
    · repeat (first | refine Vx ?_ | (apply Ops_q; (case hon => exact Va); (case hd => rfl); (case hq => exact YlA)) | refine Vr ?_ | refine Vt ?_ | refine Vf ?_ | refine Vm ?_ | refine Ve ?_ | refine Vo ?_ | refine Vz ?_ | refine Vn ?_)
      exact ⟨M, (by repeat (first | exact trivial | refine ⟨rfl, ?_⟩)), m3, D3, hP⟩
  clear m3 D3 hP
  rintro M w3 ⟨m3, D3, hP⟩
  obtain ⟨y, hy⟩ := D3.get (k := p) (by omega)
  obtain ⟨z, hz⟩ : ∃ z, 0 < a → M[a - 1]? = some z := by
    by_cases h : 0 < a
    · obtain ⟨z, hz⟩ := D3.get (k := a - 1) (by omega)
      exact ⟨z, fun _ => hz⟩
    · exact ⟨0, fun h2 => absurd h2 h⟩
  obtain ⟨t, ht⟩ : ∃ t, t = (decide (0 < a) && !decide (z < y)) := ⟨_, rfl⟩
  repeat (first | refine Vx ?_ | (apply Ops_q; (case hon => exact Va); (case hd => rfl); (case hq => exact YlA)) | refine Vr ?_ | refine Vt ?_ | refine Vf ?_ | refine Vm ?_ | refine Ve ?_ | refine Vo ?_ | refine Vz ?_ | refine Vn ?_)
  refine Ops_meet [(87, .bool t), (11, .int .i64 p), (1, .int .i64 a), (2, .int .i64 b), (3, .int .i64 lim), (8, .bool bal), (9, .bool part), (10, .int .i64 l), (0, .slice (some ⟨g, 0, none⟩) n cap)] ?_ ?_
  · have hcy := D3.at hy
    by_cases h : 0 < a
    · have hd : decide ((0 : Int) < (a : Int)) = true := decide_eq_true (by omega)
      have hcx := D3.at (hz h)
      have hs1 : (a : Int) - 1 = ((a - 1 : Nat) : Int) := by omega
      repeat (first | refine Vx ?_ | (apply Ops_q; (case hon => exact Va); (case hd => rfl); (case hq => exact YlA)) | refine Vr ?_ | refine Vt ?_ | refine Vf ?_ | refine Vm ?_ | refine Ve ?_ | refine Vo ?_ | refine Vz ?_ | refine Vn ?_)
      refine Ops_know rfl rfl hd ?_
      repeat (first | refine Vx ?_ | (apply Ops_q; (case hon => exact Va); (case hd => rfl); (case hq => exact YlA)) | refine Vr ?_ | refine Vt ?_ | refine Vf ?_ | refine Vm ?_ | refine Ve ?_ | refine Vo ?_ | refine Vz ?_ | refine Vn ?_)
      rw [hs1]
      (apply Ops_q; (case hon => (exact Va)); (case hd => rfl); (case hq => exact Yl_indexS (j := (a - 1)) rfl rfl (by omega)))
      repeat (first | refine Vx ?_ | (apply Ops_q; (case hon => exact Va); (case hd => rfl); (case hq => exact YlA)) | refine Vr ?_ | refine Vt ?_ | refine Vf ?_ | refine Vm ?_ | refine Ve ?_ | refine Vo ?_ | refine Vz ?_ | refine Vn ?_)
      (apply Ops_q; (case hon => (exact Va)); (case hd => rfl); (case hq => exact Yl_indexS (j := p) rfl rfl (by omega)))
      repeat (first | refine Vx ?_ | (apply Ops_q; (case hon => exact Va); (case hd => rfl); (case hq => exact YlA)) | refine Vr ?_ | refine Vt ?_ | refine Vf ?_ | refine Vm ?_ | refine Ve ?_ | refine Vo ?_ | refine Vz ?_ | refine Vn ?_)
      (apply Ops_q; (case hon => (exact Va)); (case hd => rfl); (case hq => exact Yl_call rfl (fun w_ e_ => lessU_v z y w_)))
      repeat (first | refine Vx ?_ | (apply Ops_q; (case hon => exact Va); (case hd => rfl); (case hq => exact YlA)) | refine Vr ?_ | refine Vt ?_ | refine Vf ?_ | refine Vm ?_ | refine Ve ?_ | refine Vo ?_ | refine Vz ?_ | refine Vn ?_)
      refine ⟨⟨?_, (by repeat (first | exact trivial | refine ⟨rfl, ?_⟩))⟩, rfl⟩
      rw [ht, decide_eq_true h]; exact rfl
    · have hd : decide ((0 : Int) < (a : Int)) = false := decide_eq_false (by omega)
      repeat (first | refine Vx ?_ | (apply Ops_q; (case hon => exact Va); (case hd => rfl); (case hq => exact YlA)) | refine Vr ?_ | refine Vt ?_ | refine Vf ?_ | refine Vm ?_ | refine Ve ?_ | refine Vo ?_ | refine Vz ?_ | refine Vn ?_)
      refine Ops_know rfl rfl hd ?_
      repeat (first | refine Vx ?_ | (apply Ops_q; (case hon => exact Va); (case hd => rfl); (case hq => exact YlA)) | refine Vr ?_ | refine Vt ?_ | refine Vf ?_ | refine Vm ?_ | refine Ve ?_ | refine Vo ?_ | refine Vz ?_ | refine Vn ?_)
      refine ⟨⟨?_, (by repeat (first | exact trivial | refine ⟨rfl, ?_⟩))⟩, rfl⟩
      rw [ht, decide_eq_false h]; exact rfl
  repeat (first | refine Vx ?_ | (apply Ops_q; (case hon => exact Va); (case hd => rfl); (case hq => exact YlA)) | refine Vr ?_ | refine Vt ?_ | refine Vf ?_ | refine Vm ?_ | refine Ve ?_ | refine Vo ?_ | refine Vz ?_ | refine Vn ?_)
  refine V_cond rfl (fun hc => ?_) (fun hc => ?_)
  · rw [hc] at ht
    have ha : 0 < a := by
      rcases Nat.eq_zero_or_pos a with h | h
      · rw [decide_eq_false (by omega)] at ht; cases ht
      · exact h
    rw [decide_eq_true ha] at ht
    have hzy : ¬z < y := fun h => by simp [h] at ht
    replace hz := hz ha
    repeat (first | refine Vx ?_ | (apply Ops_q; (case hon => exact Va); (case hd => rfl); (case hq => exact YlA)) | refine Vr ?_ | refine Vt ?_ | refine Vf ?_ | refine Vm ?_ | refine Ve ?_ | refine Vo ?_ | refine Vz ?_ | refine Vn ?_)
    refine Ops_callM (S := BlkU g) (R := fun _ => DatV base g n cap (fun r L' => ∃ i : Nat, r = .int .i64 i ∧ a < i ∧ i ≤ b ∧ Moved M L' a b ∧ (∀ k x, a ≤ k → k < i → L'[k]? = some x → ¬ltU y x < 0) ∧ ∀ k x, i ≤ k → k < b → L'[k]? = some x → ltU y x < 0)) (by exact Va) rfl rfl (fun w_ e_ => partEqU_v M a b p y w_ (D3.ext e_) hn (by omega) (by omega) ⟨hp1, hp2⟩ hy) ?_
    intro r w5 w0_ e0 m5 hR
    obtain ⟨M5, D5, i, rfl, hi1, hi2, hM5, hl1, hl2⟩ := hR
    repeat (first | refine Vx ?_ | (apply Ops_q; (case hon => exact Va); (case hd => rfl); (case hq => exact YlA)) | refine Vr ?_ | refine Vt ?_ | refine Vf ?_ | refine Vm ?_ | refine Ve ?_ | refine Vo ?_ | refine Vz ?_ | refine Vn ?_)
    have hP5 := hP.move hM5
    have hz5 : M5[a - 1]? = some z := (hM5.out _ (.inl (by omega))).trans hz
    refine ⟨(i, b, lim, bal, part, M5), (by repeat (first | exact trivial | refine ⟨rfl, ?_⟩)), ⟨hlim, (m3.ext e0).trans m5, D5, hP5.eq (by omega) hi2 (fun u v x x' h1 h2 h3 hx hx' => ?_) (fun u v x x' h1 h2 h3 h4 hx hx' => ?_)⟩, by simp only; omega⟩
    · have q1 := hl1 u x h1 (by omega) hx
      have q2 := hP5.pre' (a - 1) v z x' (Nat.zero_le _) (by omega) (by omega) (by omega) hz5 hx'
      simp only [ltU] at *; omega
    · have q1 := hl1 u x h1 h2 hx
      have q2 := hl2 v x' h3 h4 hx'
      simp only [ltU] at *; omega
  clear hz ht hy hc
  repeat (first | refine Vx ?_ | (apply Ops_q; (case hon => exact Va); (case hd => rfl); (case hq => exact YlA)) | refine Vr ?_ | refine Vt ?_ | refine Vf ?_ | refine Vm ?_ | refine Ve ?_ | refine Vo ?_ | refine Vz ?_ | refine Vn ?_)
  refine Ops_callM (S := BlkU g) (R := fun _ => DatV base g n cap (fun r L' => ∃ (j : Nat) (o : Bool), r = .tuple #[.int .i64 j, .bool o] ∧ a ≤ j ∧ j < b ∧ Moved M L' a b ∧ Below2 ltU L' a j j b ∧ Below2 ltU L' a (j + 1) (j + 1) b)) (by exact Va) rfl rfl (fun w_ e_ => partU_v M a b p w_ (D3.ext e_) hn (by omega) (by omega) ⟨hp1, hp2⟩) ?_
  intro r w5 w0_ e0 m5 hR
  obtain ⟨M5, D5, j, o, rfl, hj1, hj2, hM5, q1, q2⟩ := hR
  have hP5 := hP.move hM5
  have m05 := (m3.ext e0).trans m5
  clear hP m3 D3 hM5 m5 e0
  have el : (j : Int) - (a : Int) = ((j - a : Nat) : Int) := by omega
  have er : (b : Int) - (j : Int) = ((b - j : Nat) : Int) := by omega
  repeat (first | refine Vx ?_ | (apply Ops_q; (case hon => exact Va); (case hd => rfl); (case hq => exact YlA)) | refine Vr ?_ | refine Vt ?_ | refine Vf ?_ | refine Vm ?_ | refine Ve ?_ | refine Vo ?_ | refine Vz ?_ | refine Vn ?_)
  rw [el, er]
  repeat (first | refine Vx ?_ | (apply Ops_q; (case hon => exact Va); (case hd => rfl); (case hq => exact YlA)) | refine Vr ?_ | refine Vt ?_ | refine Vf ?_ | refine Vm ?_ | refine Ve ?_ | refine Vo ?_ | refine Vz ?_ | refine Vn ?_)
  refine V_cond rfl (fun hlr => ?_) (fun hlr => ?_)
  · repeat (first | refine Vx ?_ | (apply Ops_q; (case hon => exact Va); (case hd => rfl); (case hq => exact YlA)) | refine Vr ?_ | refine Vt ?_ | refine Vf ?_ | refine Vm ?_ | refine Ve ?_ | refine Vo ?_ | refine Vz ?_ | refine Vn ?_)
    refine Ops_callM (S := BlkU g) (R := fun _ => DatV base g n cap (fun r L' => r = .tuple #[] ∧ Moved M5 L' a j ∧ Asc ltU L' a j)) (by exact Va) rfl rfl (fun w_ e_ => ih (j - a) (by omega) M5 a j lim w_ (Nat.le_refl _) (D5.ext e_) (by omega) hj1 (fun u v x x' h1 h2 h3 h4 => hP5.pre' u v x x' h1 h2 h3 (by omega)) hlim) ?_
    intro r w6 w0_ e0 m6 hR
    obtain ⟨M6, D6, rfl, hM6, hA6⟩ := hR
    have hP6 := hP5.move (hM6.wide (Nat.le_refl _) (by omega))
    have hP7 := hP6.left hj1 hj2 hA6 (q1.moved hM6 (Nat.le_refl _)) (q2.moved (hM6.wide (Nat.le_refl _) (by omega)) (Nat.le_refl _))
    repeat (first | refine Vx ?_ | (apply Ops_q; (case hon => exact Va); (case hd => rfl); (case hq => exact YlA)) | refine Vr ?_ | refine Vt ?_ | refine Vf ?_ | refine Vm ?_ | refine Ve ?_ | refine Vo ?_ | refine Vz ?_ | refine Vn ?_)
    exact ⟨(j + 1, b, lim, decide ((l : Int) / 8 ≤ ((j - a : Nat) : Int)), o, M6), (by repeat (first | exact trivial | refine ⟨rfl, ?_⟩)), ⟨hlim, (m05.ext e0).trans m6, D6, hP7⟩, by simp only; omega⟩
  · repeat (first | refine Vx ?_ | (apply Ops_q; (case hon => exact Va); (case hd => rfl); (case hq => exact YlA)) | refine Vr ?_ | refine Vt ?_ | refine Vf ?_ | refine Vm ?_ | refine Ve ?_ | refine Vo ?_ | refine Vz ?_ | refine Vn ?_)
    refine Ops_callM (S := BlkU g) (R := fun _ => DatV base g n cap (fun r L' => r = .tuple #[] ∧ Moved M5 L' (j + 1) b ∧ Asc ltU L' (j + 1) b)) (by exact Va) rfl rfl (fun w_ e_ => ih (b - (j + 1)) (by omega) M5 (j + 1) b lim w_ (Nat.le_refl _) (D5.ext e_) (by omega) (by omega) (fun u v x x' h1 h2 h3 h4 hx hx' => by
        rcases Nat.lt_or_ge u a with c | c
        · exact hP5.pre' u v x x' h1 c (by omega) h4 hx hx'
        · exact q2 u v x x' c h2 h3 h4 hx hx') hlim) ?_
    intro r w6 w0_ e0 m6 hR
    obtain ⟨M6, D6, rfl, hM6, hA6⟩ := hR
    have hP6 := hP5.move (hM6.wide (by omega) (Nat.le_refl _))
    have hP7 := hP6.right hj1 hj2 hA6 (q1.moved' (hM6.wide (by omega) (Nat.le_refl _)) (Nat.le_refl _)) (q2.moved' hM6 (Nat.le_refl _))
    repeat (first | refine Vx ?_ | (apply Ops_q; (case hon => exact Va); (case hd => rfl); (case hq => exact YlA)) | refine Vr ?_ | refine Vt ?_ | refine Vf ?_ | refine Vm ?_ | refine Ve ?_ | refine Vo ?_ | refine Vz ?_ | refine Vn ?_)
    exact ⟨(a, j, lim, decide ((l : Int) / 8 ≤ ((b - j : Nat) : Int)), o, M6), (by repeat (first | exact trivial | refine ⟨rfl, ?_⟩)), ⟨hlim, (m05.ext e0).trans m6, D6, hP7⟩, by simp only; omega⟩
end
end Go.Proofs.Ytjpnaofoeeegeaa


/-
  More rules of the walk: parts of a slice; append of a slice that may be nil.
  No conditions beyond those that each rule states.
-/
namespace Go.Proofs.Ytjpnaofoeeegeaa
open Go.RowKit

section
variable {w w' : World} {base n0 : Nat} {e : TypeId} {v : Value} {L : List (List Value)} {ao : Option Addr}
/-- What a slice of one's own is, and what it holds. -/
theorem Own.slice2 (h : Own w base e n0 v L) : ∃ ao c, v = .slice ao L.length c ∧ Arr w n0 ao L ∧ L.length ≤ c ∧ (ao = none → c = 0) := by
  obtain ⟨ao, c, rfl, hA⟩ := h.slice
  refine ⟨ao, c, rfl, hA, ?_⟩
  obtain ⟨_, ⟨h1, h2⟩ | ⟨g, cap, cur, h1, h2, h3, h4, h5, _⟩⟩ := h.row
  · obtain ⟨_, h3, h4⟩ : ao = none ∧ L.length = 0 ∧ c = 0 := by simpa using h1
    exact ⟨by omega, fun _ => h4⟩
  · cases h1; exact ⟨h4, fun h => nomatch h⟩
theorem Arr.take (h : Arr w n0 ao L) (i : Nat) : Arr w n0 ao (L.take i) := fun k x hk => by
  rw [List.getElem?_take] at hk
  split at hk
  · exact h k x hk
  · cases hk
theorem Arr.drop {ad : Addr} (h : Arr w n0 (some ad) L) (i : Nat) : Arr w n0 (some (ad.add (i * n0))) (L.drop i) := fun k x hk => by
  rw [List.getElem?_drop] at hk
  obtain ⟨ad', h1, h2⟩ := h _ x hk
  cases h1
  refine ⟨_, rfl, ?_⟩
  rw [add_add, ← Nat.add_mul]; exact h2
end

end Go.Proofs.Ytjpnaofoeeegeaa


/-
  Sorting words: slices.Sort and slices.Compact at uint64.
  Conditions: the list is one's own, and not too long for a machine.
-/
namespace Go.Proofs.Ytjpnaofoeeegeaa
open Go.RowKit

section
variable {P : Program} {N : Fr} {ops : Array Oper} {K : Env → World → Prop} {m : Env} {w : World} {rest : List Oper} {ty : TypeId} {pos : String} {after : Array Edge} {g : Option (Nat × Bool)}
/-- clear(s) at a slice of one's own, of elements of one cell. -/
theorem Ops_clear {t e t0 : TypeId} {x : Operand} {b o n c : Nat} {cs : List Value} {z : Value} [ht : TSlice P t e] [hz : TZero P e z [z]] (hon : On N ops m ⟨none, .call { callee := .builtin .clear, args := #[x], argTypes := #[t] }, ty, pos, after, g⟩)
    (hx : ev m x = some (.slice (some ⟨b, o, none⟩) n c)) (hB : Blk w b t0 cs) (hn : 0 < n) (ho : o + n ≤ cs.length) (h1 : z.oneCell' = true)
    (h : ∀ w1, Upd w w1 b t0 (splice cs o (List.replicate n z)) → Ops P N ops false K rest m w1) : Ops P N ops false K (⟨none, .call { callee := .builtin .clear, args := #[x], argTypes := #[t] }, ty, pos, after, g⟩ :: rest) m w := by
  refine ⟨fun a w' ha hw => ?_⟩
  unfold wpList
  rw [if_pos (hon.out a ha)]
  refine .inl ?_
  have hst := run_storeCells_at P b o t0 (List.replicate n z) 0 cs.toArray w' (hB.ext hw) (by simpa using ho) (fun v hv => by rw [List.eq_of_mem_replicate hv]; exact h1)
  simp only [Nat.add_zero] at hst
  obtain ⟨inf, h2, h3⟩ := Option.bind_eq_some_iff.1 hz.h
  have hzr : (zeroValue e).run P w' = .ok z w' := by simp [zeroValue, typeInfo, h2, h3]
  have hzc : (Builtin.zeroCells z.cells n).toList = List.replicate n z := by
    rw [hz.cells]
    simp [Builtin.zeroCells]
    apply List.ext_getElem
    · simp
    · intro i h1 h2
      simp [Nat.mod_one]
  have hr : (execOp a.eval ⟨none, .call { callee := .builtin .clear, args := #[x], argTypes := #[t] }, ty, pos, after, g⟩).run P w' = .ok (.value (.tuple #[])) (w'.setRow b (splice cs o (List.replicate n z)).toArray) := by
    obtain ⟨q, rfl⟩ : ∃ q, n = q + 1 := ⟨n - 1, by omega⟩
    simp [execOp, resolve, invoke, builtin, ha.ev hx, Builtin.clear_, run_underlying ht.h, hzr, hzc, hst, splice]
  unfold Oper.wp
  rw [hr]
  exact (h _ (Upd.of hB)).out _ _ (ha.put_none _) (ext_setRow hw _)
end
section
variable {base g n cap : Nat}
theorem sortU_v (hn : n ≤ 1000000000000) (L : List Int) (w : World) (hD : DatU w base g n cap L) :
    Calls Try.prog 76 #[.slice (some ⟨g, 0, none⟩) n cap] w (Does (BlkU g) (DatV base g n cap (fun r L' => r = .tuple #[] ∧ Moved L L' 0 n ∧ Asc ltU L' 0 n)) w) := by
  have hl := Lib.bitLen_le n 40 (by omega) (by omega)
  refine V_enter (vs := [_]) Try.func76 rfl Try.ntmps76 (Nat.le_of_ble_eq_true rfl) ?_
  repeat (first | refine Vx ?_ | (apply Ops_q; (case hon => exact Va); (case hd => rfl); (case hq => exact YlA)) | refine Vr ?_ | refine Vt ?_ | refine Vf ?_ | refine Vm ?_ | refine Ve ?_ | refine Vo ?_ | refine Vz ?_ | refine Vn ?_)
  (apply Ops_q; (case hon => (exact Va)); (case hd => rfl); (case hq => exact Yl_call rfl (fun w_ e_ => lenI_v n w_ (by omega))))
  repeat (first | refine Vx ?_ | (apply Ops_q; (case hon => exact Va); (case hd => rfl); (case hq => exact YlA)) | refine Vr ?_ | refine Vt ?_ | refine Vf ?_ | refine Vm ?_ | refine Ve ?_ | refine Vo ?_ | refine Vz ?_ | refine Vn ?_)
  refine Ops_callM (S := BlkU g) (R := fun _ => DatV base g n cap (fun r L' => r = .tuple #[] ∧ Moved L L' 0 n ∧ Asc ltU L' 0 n)) (by exact Va) rfl rfl (fun w_ e_ => pdqU_v hn n L 0 n (Lib.bitLen n) w_ (Nat.le_refl _) (hD.ext e_) (Nat.le_refl _) (Nat.zero_le _) (fun i j x y h1 h2 => absurd h2 (Nat.not_lt_zero _)) (by omega)) ?_
  intro r w5 w0_ e0 m5 hR
  obtain ⟨M5, D5, rfl, hM5, hA5⟩ := hR
  repeat (first | refine Vx ?_ | (apply Ops_q; (case hon => exact Va); (case hd => rfl); (case hq => exact YlA)) | refine Vr ?_ | refine Vt ?_ | refine Vf ?_ | refine Vm ?_ | refine Ve ?_ | refine Vo ?_ | refine Vz ?_ | refine Vn ?_)
  refine ret0 (by first | exact .inl rfl | exact .inr rfl) rfl ?_
  exact Does_mk (fun w' he => ⟨M5, D5.ext he, rfl, hM5, hA5⟩) ((Mod.of_ext e0).trans m5)
end
/-! ### Compact, in plain lists -/
structure SD (D L : List Int) (p : Nat) : Prop where
  lt : D.Pairwise (· < ·)
  mem : ∀ x, x ∈ D ↔ x ∈ L.take p
theorem SD.step {D L : List Int} {p n : Nat} (h : SD D L p) (hA : Asc ltU L 0 n) (hp : p < n) (hn : n = L.length) (h1 : 1 ≤ p) {x y : Int} (hx : L[p]? = some x) (hy : L[p - 1]? = some y) :
    (x ≠ y → SD (D ++ [x]) L (p + 1)) ∧ (x = y → SD D L (p + 1)) := by
  have hle : ∀ d ∈ D, d ≤ y := fun d hd => by
    obtain ⟨k, hk, rfl⟩ := List.mem_take_iff_getElem.1 ((h.mem d).1 hd)
    rcases Nat.lt_or_ge k (p - 1) with c | c
    · have := hA k (p - 1) _ y (Nat.zero_le _) c (by omega) (List.getElem?_eq_getElem (by omega : k < L.length)) hy
      simp only [ltU] at this; omega
    · obtain rfl : k = p - 1 := by omega
      rw [List.getElem?_eq_getElem (by omega)] at hy
      exact Int.le_of_eq (Option.some.inj hy)
  have hyx : ¬ltU x y < 0 := hA (p - 1) p y x (Nat.zero_le _) (by omega) hp hy hx
  simp only [ltU] at hyx
  have hm : ∀ z, z ∈ L.take (p + 1) ↔ z ∈ L.take p ∨ z = x := fun z => by
    rw [List.take_add_one, hx, List.mem_append]; simp
  refine ⟨fun hne => ⟨?_, fun z => ?_⟩, fun he => ⟨h.lt, fun z => ?_⟩⟩
  · rw [List.pairwise_append]
    refine ⟨h.lt, List.pairwise_singleton .., fun d hd z hz => ?_⟩
    rw [List.mem_singleton.1 hz]
    have := hle d hd; omega
  · rw [List.mem_append, hm, h.mem]; simp
  · rw [hm, ← h.mem]
    refine ⟨.inl, fun hz => hz.elim id fun e => ?_⟩
    rw [h.mem, e, he]
    exact List.mem_take_iff_getElem.2 ⟨p - 1, by omega, by rw [List.getElem?_eq_getElem (by omega)] at hy; exact Option.some.inj hy⟩
section
variable {P : Program} {N : Fr} {ops : Array Oper} {K : Env → World → Prop} {m : Env} {w : World} {rest : List Oper} {ty : TypeId} {pos : String} {after : Array Edge} {g : Option (Nat × Bool)} {dr : Bool}
/-- s[i:], the address exactly -/
theorem Ops_sliceLx {dst : Nat} {t e : TypeId} {x y : Operand} {k : IntKind} {i c n0 b0 n : Nat} {ad : Addr} [ht : TSlice P t e] [hs : TSize P e n0 b0]
    (hon : On N ops m ⟨some dst, .slice t x (some y) none none, ty, pos, after, g⟩) (hd : Nat.ble (dst + 1) N.n = true) (hx : ev m x = some (.slice (some ad) n c)) (hy : ev m y = some (.int k (i : Int)))
    (hi : i < n) (hc : n ≤ c) (h : Ops P N ops false K rest ((dst, .slice (some (ad.add (i * n0))) (n - i) (c - i)) :: m) w) :
    Ops P N ops false K (⟨some dst, .slice t x (some y) none none, ty, pos, after, g⟩ :: rest) m w := by
  obtain ⟨inf, h1, h2⟩ := Option.map_eq_some_iff.1 hs.h
  simp only [Prod.mk.injEq] at h2
  refine Ops_q hon hd (Yl_of_run fun ac w' ha _ => ?_) h
  have he : P.elem t = e := by simp [Program.elem, ht.h]
  have hu : P.underlying t = some (.slice (P.elem t)) := by rw [he]; exact ht.h
  have := run_slice_l (P := P) w' t (some ad) n c hu k i (by omega) (by omega)
  have hci : ¬c = i := by omega
  simp only [execOp, Option.map_none, Option.map_some, ha.ev hx, ha.ev hy]
  simp only [Sem.run_bind, run_sliceAt_slice w' t _ _ _ _ hu, this, sizeOf, typeInfo, he]
  simp [sliced, h1, h2.1, Result.andThen, hci]
/-- s[:i], whatever lies there -/
theorem Ops_sliceHx {dst : Nat} {t e : TypeId} {x y : Operand} {k : IntKind} {i c n0 b0 n : Nat} {ao : Option Addr} [ht : TSlice P t e] [hs : TSize P e n0 b0]
    (hon : On N ops m ⟨some dst, .slice t x none (some y) none, ty, pos, after, g⟩) (hd : Nat.ble (dst + 1) N.n = true) (hx : ev m x = some (.slice ao n c)) (hy : ev m y = some (.int k (i : Int)))
    (hi : i ≤ n) (hc : n ≤ c) (h : Ops P N ops false K rest ((dst, .slice ao i c) :: m) w) :
    Ops P N ops false K (⟨some dst, .slice t x none (some y) none, ty, pos, after, g⟩ :: rest) m w := by
  refine Ops_q hon hd (v := .slice ao i c) (Yl_of_run fun ac w' ha _ => ?_) h
  obtain ⟨inf, h1, h2⟩ := Option.map_eq_some_iff.1 hs.h
  have he : P.elem t = e := by simp [Program.elem, ht.h]
  have hu : P.underlying t = some (.slice (P.elem t)) := by rw [he]; exact ht.h
  have h0 : ao.map (fun a => a.add 0) = ao := by cases ao <;> simp [Addr.add]
  have := run_slice_h (P := P) w' t ao n c hu k i (by omega) (by omega)
  simp only [execOp, Option.map_none, Option.map_some, ha.ev hx, ha.ev hy]
  simp only [Sem.run_bind, run_sliceAt_slice w' t _ _ _ _ hu, this, sizeOf, typeInfo, he]
  simp [sliced, h1, h0, Result.andThen]
end
theorem cell_of_blk {w : World} {b k : Nat} {t : TypeId} {cs : List Value} (h : Blk w b t cs) : w.cell? ⟨b, k, none⟩ = cs[k]? := by
  unfold Blk at h
  simp [World.cell?, h]
/-- Words that can be read in a row, from the start of a block on. -/
def ReadU (w : World) (g : Nat) (D : List Int) : Prop := ∀ k x, D[k]? = some x → w.cell? ((⟨g, 0, none⟩ : Addr).add (k * 1)) = some (.int .u64 x)
theorem ReadU.ext {w w1 : World} {g : Nat} {D : List Int} (h : ReadU w g D) (he : Ext w w1) : ReadU w1 g D := fun k x hx => he.cell (h k x hx)
/-- What Compact leaves: the words without those that are like the one before. -/
def CmpR (g n cap : Nat) (L : List Int) (r : Value) (w' : World) : Prop := ∃ D : List Int, r = .slice (some ⟨g, 0, none⟩) D.length cap ∧ D.length ≤ n ∧ ReadU w' g D ∧ SD D L n
section
variable {base g n cap : Nat}
theorem DatU.read {w : World} {L : List Int} (h : DatU w base g n cap L) : ReadU w g L := fun _ _ hx => h.at hx
theorem DatU.le_cap {w : World} {L : List Int} (h : DatU w base g n cap L) : n ≤ cap := by
  obtain ⟨ao, c, hv, _, hc, _⟩ := h.own.slice2
  cases hv
  rw [List.length_map, h.len] at hc; exact hc
set_option maxHeartbeats 2000000 in
theorem compactU_v (hn : n ≤ 1000000000000) (L : List Int) (w : World) (hD : DatU w base g n cap L) (hA : Asc ltU L 0 n) :
    Calls Try.prog 77 #[.slice (some ⟨g, 0, none⟩) n cap] w (Does (BlkU g) (CmpR g n cap L) w) := by
  have hLl := hD.len
  have hcap := hD.le_cap
  refine V_enter (vs := [_]) Try.func77 rfl Try.ntmps77 (Nat.le_of_ble_eq_true rfl) ?_
  repeat (first | refine Vx ?_ | (apply Ops_q; (case hon => exact Va); (case hd => rfl); (case hq => exact YlA)) | refine Vr ?_ | refine Vt ?_ | refine Vf ?_ | refine Vm ?_ | refine Ve ?_ | refine Vo ?_ | refine Vz ?_ | refine Vn ?_)
  refine V_cond rfl (fun h2 => ?_) (fun h2 => ?_)
  · replace h2 := of_decide_eq_true h2
    repeat (first | refine Vx ?_ | (apply Ops_q; (case hon => exact Va); (case hd => rfl); (case hq => exact YlA)) | refine Vr ?_ | refine Vt ?_ | refine Vf ?_ | refine Vm ?_ | refine Ve ?_ | refine Vo ?_ | refine Vz ?_ | refine Vn ?_)
    refine ret1 (by first | exact .inl rfl | exact .inr rfl) rfl rfl ?_
    refine Does_mk (fun w' he => ⟨L, by rw [hLl], Nat.le_of_eq hLl, hD.read.ext he, ⟨?_, fun x => by rw [List.take_of_length_le (by omega)]⟩⟩) (.of_ext (Ext.refl _))
    match L, hLl with
    | [], _ => exact .nil
    | [x], _ => exact List.pairwise_singleton ..
    | x :: y :: l, h => simp at h; omega
  replace h2 := of_decide_eq_false h2
  repeat (first | refine Vx ?_ | (apply Ops_q; (case hon => exact Va); (case hd => rfl); (case hq => exact YlA)) | refine Vr ?_ | refine Vt ?_ | refine Vf ?_ | refine Vm ?_ | refine Ve ?_ | refine Vo ?_ | refine Vz ?_ | refine Vn ?_)
  refine V_loop (fun s : Nat => [(3, .int .i64 s), (0, .slice (some ⟨g, 0, none⟩) n cap)]) (fun s w' => Ext w w' ∧ 1 ≤ s ∧ s ≤ n ∧ SD (L.take s) L s) (fun s => n - s) 1 (by repeat (first | exact trivial | refine ⟨rfl, ?_⟩))
    ⟨Ext.refl _, Nat.le_refl _, by omega, ⟨?_, fun x => Iff.rfl⟩⟩ ?_
  · match L with
    | [] => simp
    | x :: l => simp
  rintro i w3 ⟨x3, h1, h3, hS⟩
  have D3 := hD.ext x3
  repeat (first | refine Vx ?_ | (apply Ops_q; (case hon => exact Va); (case hd => rfl); (case hq => exact YlA)) | refine Vr ?_ | refine Vt ?_ | refine Vf ?_ | refine Vm ?_ | refine Ve ?_ | refine Vo ?_ | refine Vz ?_ | refine Vn ?_)
  refine V_cond rfl (fun hi => ?_) (fun hi => ?_)
  · replace hi := of_decide_eq_true hi
    obtain ⟨p, rfl⟩ : ∃ p, i = p + 1 := ⟨i - 1, by omega⟩
    have hs1 : ((p + 1 : Nat) : Int) - 1 = (p : Int) := by omega
    obtain ⟨x, hx⟩ := D3.get (k := p + 1) (by omega)
    obtain ⟨y, hy⟩ := D3.get (k := p) (by omega)
    have hcx := D3.at hx
    have hcy := D3.at hy
    obtain ⟨q1, q2⟩ := hS.step hA (by omega) hLl.symm h1 hx hy
    repeat (first | refine Vx ?_ | (apply Ops_q; (case hon => exact Va); (case hd => rfl); (case hq => exact YlA)) | refine Vr ?_ | refine Vt ?_ | refine Vf ?_ | refine Vm ?_ | refine Ve ?_ | refine Vo ?_ | refine Vz ?_ | refine Vn ?_)
    (apply Ops_q; (case hon => (exact Va)); (case hd => rfl); (case hq => exact Yl_indexS (j := (p+1)) rfl rfl (by omega)))
    repeat (first | refine Vx ?_ | (apply Ops_q; (case hon => exact Va); (case hd => rfl); (case hq => exact YlA)) | refine Vr ?_ | refine Vt ?_ | refine Vf ?_ | refine Vm ?_ | refine Ve ?_ | refine Vo ?_ | refine Vz ?_ | refine Vn ?_)
    rw [hs1]
    (apply Ops_q; (case hon => (exact Va)); (case hd => rfl); (case hq => exact Yl_indexS (j := p) rfl rfl (by omega)))
    repeat (first | refine Vx ?_ | (apply Ops_q; (case hon => exact Va); (case hd => rfl); (case hq => exact YlA)) | refine Vr ?_ | refine Vt ?_ | refine Vf ?_ | refine Vm ?_ | refine Ve ?_ | refine Vo ?_ | refine Vz ?_ | refine Vn ?_)
    refine V_cond rfl (fun hxy => ?_) (fun hxy => ?_)
    · replace hxy := of_decide_eq_true hxy
      replace q2 := q2 hxy
      repeat (first | refine Vx ?_ | (apply Ops_q; (case hon => exact Va); (case hd => rfl); (case hq => exact YlA)) | refine Vr ?_ | refine Vt ?_ | refine Vf ?_ | refine Vm ?_ | refine Ve ?_ | refine Vo ?_ | refine Vz ?_ | refine Vn ?_)
      (refine Ops_sliceLx (by exact Va) rfl rfl rfl (by omega) hcap ?_; rw [add_blk, Nat.zero_add, Nat.mul_one])
      repeat (first | refine Vx ?_ | (apply Ops_q; (case hon => exact Va); (case hd => rfl); (case hq => exact YlA)) | refine Vr ?_ | refine Vt ?_ | refine Vf ?_ | refine Vm ?_ | refine Ve ?_ | refine Vo ?_ | refine Vz ?_ | refine Vn ?_)
      generalize hi0 : p + 1 = i0 at *
      clear hx hy hcx hcy hs1 q1 hS
      refine V_loop (fun s : Nat × Nat × List Int => [(5, .int .i64 s.1), (3, .int .i64 s.2.1), (4, .slice (some ⟨g, i0, none⟩) (n - i0) (cap - i0)), (0, .slice (some ⟨g, 0, none⟩) n cap)])
        (fun s w' => 1 ≤ s.1 ∧ s.1 ≤ n - i0 ∧ i0 ≤ s.2.1 ∧ s.2.1 < i0 + s.1 ∧ Mod (BlkU g) w w' ∧ DatU w' base g n cap s.2.2 ∧ SD (s.2.2.take s.2.1) L (i0 + s.1) ∧ ∀ j, i0 + s.1 ≤ j + 1 → s.2.2[j]? = L[j]?) (fun s => n - i0 - s.1) (1, i0, L) (by repeat (first | exact trivial | refine ⟨rfl, ?_⟩))
        ⟨Nat.le_refl _, by dsimp only; omega, Nat.le_refl _, by dsimp only; omega, .of_ext x3, D3, q2, fun _ _ => rfl⟩ ?_
      clear q2 D3 h1 h3 hi x3
      rintro ⟨k, i, M⟩ w3 ⟨h1, h3, h4, h5, m3, D3, hS, hsame⟩
      dsimp only at h1 h3 h4 h5 D3 hS hsame ⊢
      have hMl := D3.len
      repeat (first | refine Vx ?_ | (apply Ops_q; (case hon => exact Va); (case hd => rfl); (case hq => exact YlA)) | refine Vr ?_ | refine Vt ?_ | refine Vf ?_ | refine Vm ?_ | refine Ve ?_ | refine Vo ?_ | refine Vz ?_ | refine Vn ?_)
      refine V_cond rfl (fun hk => ?_) (fun hk => ?_)
      · replace hk := of_decide_eq_true hk
        obtain ⟨q, rfl⟩ : ∃ q, k = q + 1 := ⟨k - 1, by omega⟩
        have hs1 : ((q + 1 : Nat) : Int) - 1 = (q : Int) := by omega
        obtain ⟨x, hx⟩ := D3.get (k := i0 + (q + 1)) (by omega)
        obtain ⟨y, hy⟩ := D3.get (k := i0 + q) (by omega)
        have hcx := D3.at hx
        have hcy := D3.at hy
        rw [add_blk, Nat.zero_add, Nat.mul_one, ← Nat.mul_one (q + 1), ← add_blk] at hcx
        rw [add_blk, Nat.zero_add, Nat.mul_one, ← Nat.mul_one q, ← add_blk] at hcy
        obtain ⟨q1, q2⟩ := hS.step hA (by omega) hLl.symm (by omega) (by rw [← hsame _ (by omega)]; exact hx) (by rw [← hsame _ (by omega)]; exact hy)
        repeat (first | refine Vx ?_ | (apply Ops_q; (case hon => exact Va); (case hd => rfl); (case hq => exact YlA)) | refine Vr ?_ | refine Vt ?_ | refine Vf ?_ | refine Vm ?_ | refine Ve ?_ | refine Vo ?_ | refine Vz ?_ | refine Vn ?_)
        (apply Ops_q; (case hon => (exact Va)); (case hd => rfl); (case hq => exact Yl_indexS (j := (q+1)) rfl rfl (by omega)))
        repeat (first | refine Vx ?_ | (apply Ops_q; (case hon => exact Va); (case hd => rfl); (case hq => exact YlA)) | refine Vr ?_ | refine Vt ?_ | refine Vf ?_ | refine Vm ?_ | refine Ve ?_ | refine Vo ?_ | refine Vz ?_ | refine Vn ?_)
        rw [hs1]
        (apply Ops_q; (case hon => (exact Va)); (case hd => rfl); (case hq => exact Yl_indexS (j := q) rfl rfl (by omega)))
        repeat (first | refine Vx ?_ | (apply Ops_q; (case hon => exact Va); (case hd => rfl); (case hq => exact YlA)) | refine Vr ?_ | refine Vt ?_ | refine Vf ?_ | refine Vm ?_ | refine Ve ?_ | refine Vo ?_ | refine Vz ?_ | refine Vn ?_)
        refine V_cond rfl (fun hne => ?_) (fun hne => ?_)
        · repeat (first | refine Vx ?_ | (apply Ops_q; (case hon => exact Va); (case hd => rfl); (case hq => exact YlA)) | refine Vr ?_ | refine Vt ?_ | refine Vf ?_ | refine Vm ?_ | refine Ve ?_ | refine Vo ?_ | refine Vz ?_ | refine Vn ?_)
          (apply Ops_q; (case hon => (exact Va)); (case hd => rfl); (case hq => exact Yl_indexS (j := (q+1)) rfl rfl (by omega)))
          repeat (first | refine Vx ?_ | (apply Ops_q; (case hon => exact Va); (case hd => rfl); (case hq => exact YlA)) | refine Vr ?_ | refine Vt ?_ | refine Vf ?_ | refine Vm ?_ | refine Ve ?_ | refine Vo ?_ | refine Vz ?_ | refine Vn ?_)
          (apply Ops_q; (case hon => (exact Va)); (case hd => rfl); (case hq => exact Yl_indexS (j := i) rfl rfl (by omega)))
          repeat (first | refine Vx ?_ | (apply Ops_q; (case hon => exact Va); (case hd => rfl); (case hq => exact YlA)) | refine Vr ?_ | refine Vt ?_ | refine Vf ?_ | refine Vm ?_ | refine Ve ?_ | refine Vo ?_ | refine Vz ?_ | refine Vn ?_)
          refine Ops_storeDatU (i := i) (v := x) (by exact Va) rfl rfl rfl D3 (by omega) ?_
          intro w5 D5 g5
          have m5 : Mod (BlkU g) w w5 := m3.grow g5 (fun b hb => .inl (by cases hb; rfl))
          have hxy : x ≠ y := fun h => by simp [h] at hne
          have ht : (M.set i x).take (i + 1) = M.take i ++ [x] := by
            rw [List.take_add_one, List.take_set_of_le (Nat.le_refl _), List.getElem?_set_self (by omega)]; rfl
          repeat (first | refine Vx ?_ | (apply Ops_q; (case hon => exact Va); (case hd => rfl); (case hq => exact YlA)) | refine Vr ?_ | refine Vt ?_ | refine Vf ?_ | refine Vm ?_ | refine Ve ?_ | refine Vo ?_ | refine Vz ?_ | refine Vn ?_)
          refine ⟨(q + 1 + 1, i + 1, M.set i x), (by repeat (first | exact trivial | refine ⟨rfl, ?_⟩)), ⟨by dsimp only; omega, by dsimp only; omega, by dsimp only; omega, by dsimp only; omega, m5, D5, ?_, fun j hj => ?_⟩, by simp only; omega⟩
          · dsimp only; rw [ht]; exact q1 hxy
          · dsimp only at hj ⊢; rw [List.getElem?_set_ne (by omega)]; exact hsame j (by omega)
        · have hxy : x = y := by
            by_cases h : x = y
            · exact h
            · simp [h] at hne
          repeat (first | refine Vx ?_ | (apply Ops_q; (case hon => exact Va); (case hd => rfl); (case hq => exact YlA)) | refine Vr ?_ | refine Vt ?_ | refine Vf ?_ | refine Vm ?_ | refine Ve ?_ | refine Vo ?_ | refine Vz ?_ | refine Vn ?_)
          exact ⟨(q + 1 + 1, i, M), (by repeat (first | exact trivial | refine ⟨rfl, ?_⟩)), ⟨by dsimp only; omega, by dsimp only; omega, h4, by dsimp only; omega, m3, D3, q2 hxy, fun j hj => hsame j (by dsimp only at hj; omega)⟩, by simp only; omega⟩
      · replace hk := of_decide_eq_false hk
        obtain rfl : k = n - i0 := by omega
        have hin : i < n := by omega
        rw [show i0 + (n - i0) = n by omega] at hS
        repeat (first | refine Vx ?_ | (apply Ops_q; (case hon => exact Va); (case hd => rfl); (case hq => exact YlA)) | refine Vr ?_ | refine Vt ?_ | refine Vf ?_ | refine Vm ?_ | refine Ve ?_ | refine Vo ?_ | refine Vz ?_ | refine Vn ?_)
        (refine Ops_sliceLx (by exact Va) rfl rfl rfl hin hcap ?_; rw [add_blk, Nat.zero_add, Nat.mul_one])
        repeat (first | refine Vx ?_ | (apply Ops_q; (case hon => exact Va); (case hd => rfl); (case hq => exact YlA)) | refine Vr ?_ | refine Vt ?_ | refine Vf ?_ | refine Vm ?_ | refine Ve ?_ | refine Vo ?_ | refine Vz ?_ | refine Vn ?_)
        obtain ⟨hlen, ⟨e1, _⟩ | ⟨g', cap', cur, e1, e3, e4, e5, e6, e7, e8⟩⟩ := D3.own.row
        · cases e1
        cases e1
        have hB : Blk w3 g 53 cur.toList := by unfold Blk; simpa using e4
        have hcl : cur.toList.length = cap := by rw [Array.length_toList, e7, Nat.mul_one]
        refine Ops_clear (by exact Va) rfl hB (by omega) (by omega) rfl ?_
        intro w4 u4
        have m4 := m3.upd u4 (.inl rfl)
        repeat (first | refine Vx ?_ | (apply Ops_q; (case hon => exact Va); (case hd => rfl); (case hq => exact YlA)) | refine Vr ?_ | refine Vt ?_ | refine Vf ?_ | refine Vm ?_ | refine Ve ?_ | refine Vo ?_ | refine Vz ?_ | refine Vn ?_)
        refine Ops_sliceHx (by exact Va) rfl rfl rfl (Nat.le_of_lt hin) hcap ?_
        repeat (first | refine Vx ?_ | (apply Ops_q; (case hon => exact Va); (case hd => rfl); (case hq => exact YlA)) | refine Vr ?_ | refine Vt ?_ | refine Vf ?_ | refine Vm ?_ | refine Ve ?_ | refine Vo ?_ | refine Vz ?_ | refine Vn ?_)
        refine ret1 (by first | exact .inl rfl | exact .inr rfl) rfl rfl ?_
        refine Does_mk (fun w' he => ⟨M.take i, by rw [List.length_take, Nat.min_eq_left (by omega)], by rw [List.length_take]; omega, ReadU.ext (fun k x hx => ?_) he, hS⟩) m4
        rw [List.getElem?_take] at hx
        split at hx
        · rename_i hki
          have hk := D3.at hx
          rw [add_blk, cell_of_blk hB] at hk
          rw [add_blk, cell_of_blk u4.blk]
          unfold splice
          rw [List.append_assoc, List.getElem?_append_left (by rw [List.length_take]; omega), List.getElem?_take, if_pos (by omega)]
          exact hk
        · cases hx
    · replace hxy := of_decide_eq_false hxy
      replace q1 := q1 hxy
      repeat (first | refine Vx ?_ | (apply Ops_q; (case hon => exact Va); (case hd => rfl); (case hq => exact YlA)) | refine Vr ?_ | refine Vt ?_ | refine Vf ?_ | refine Vm ?_ | refine Ve ?_ | refine Vo ?_ | refine Vz ?_ | refine Vn ?_)
      refine ⟨p + 1 + 1, (by repeat (first | exact trivial | refine ⟨rfl, ?_⟩)), ⟨by assumption, by omega, by omega, ?_⟩, by omega⟩
      rw [List.take_add_one, hx]; exact q1
  · replace hi := of_decide_eq_false hi
    obtain rfl : i = n := by omega
    repeat (first | refine Vx ?_ | (apply Ops_q; (case hon => exact Va); (case hd => rfl); (case hq => exact YlA)) | refine Vr ?_ | refine Vt ?_ | refine Vf ?_ | refine Vm ?_ | refine Ve ?_ | refine Vo ?_ | refine Vz ?_ | refine Vn ?_)
    refine ret1 (by first | exact .inl rfl | exact .inr rfl) rfl rfl ?_
    rw [List.take_of_length_le (by omega)] at hS
    exact Does_mk (fun w' he => ⟨L, by rw [hLl], Nat.le_of_eq hLl, D3.read.ext he, hS⟩) (.of_ext x3)
end
end Go.Proofs.Ytjpnaofoeeegeaa


/-
  Tables (layer 7): bounds.
  Conditions: the lists are not too long for a machine.
-/
namespace Go.Proofs.Ytjpnaofoeeegeaa
open Go.RowKit

def words (L : List En) : List Int := L.flatMap fun x => [(x.p.a : Int), (x.p.last : Int) + 1]
theorem words_snoc {L : List En} {k : Nat} {x : En} (hx : L[k]? = some x) : words (L.take (k + 1)) = words (L.take k) ++ [(x.p.a : Int), (x.p.last : Int) + 1] := by
  unfold words; rw [List.take_add_one, hx, List.flatMap_append]; rfl
theorem words_len (L : List En) : (words L).length = 2 * L.length := by
  unfold words
  induction L with
  | nil => rfl
  | cons x l ih => rw [List.flatMap_cons, List.length_append, ih]; simp; omega
theorem own_lit1 {w w1 : World} {b : Nat} {e : TypeId} {v : Value} (h : New w w1 b e [v]) : Own w1 w.heap.size e 1 (.slice (some ⟨b, 0, none⟩) 1 1) [[v]] :=
  ⟨⟨rfl, .inr ⟨b, 1, #[v], rfl, h.ge, h.blk, Nat.le_refl _, by unfold maxLen; omega, rfl, rfl⟩⟩, by simp⟩
theorem last_lt' (p : Pf) (ha : p.a < 4294967296) : p.last < 4294967296 := by
  unfold Pf.last
  split
  · rename_i hv
    obtain ⟨v1, v2, v3⟩ := Pf.valid_iff.1 hv
    exact last_lt v3 (by omega) ha
  · omega
end Go.Proofs.Ytjpnaofoeeegeaa


/-
  Tables (layer 7): look; the reference's bound.
  Conditions: the lists are not too long for a machine.
-/
namespace Go.Proofs.Ytjpnaofoeeegeaa
open Go.RowKit

def lookO (E : Nat → Nat → Option Int) (a : Nat) : Int := match lookE E a with
  | some e => e.v
  | none => -1
end Go.Proofs.Ytjpnaofoeeegeaa


/-
  Layer 6 (trie): a lookup returns the entry with the longest prefix.
  Conditions: addresses are below 2^32.
-/
namespace Go.Proofs.Ytjpnaofoeeegeaa
open Go.RowKit

def lu (E : Nat → Nat → Option Int) (a : Nat) : Nat → Option En
  | 0 => none
  | m + 1 => match E (top a m) m with
    | some v => some ⟨⟨top a m, m⟩, v⟩
    | none => lu E a m
theorem pre_last (E : Nat → Nat → Option Int) (a : Nat) : ∀ m, (pre E a m).getLast? = lu E a m
  | 0 => rfl
  | m + 1 => by
    rw [pre_succ, lu]
    cases h : E (top a m) m with
    | some v => simp [adds]
    | none => simp [adds, pre_last E a m]
theorem lu_none {E : Nat → Nat → Option Int} {a : Nat} : ∀ {m : Nat}, lu E a m = none → ∀ j, j < m → E (top a j) j = none
  | 0, _, j, hj => by omega
  | m + 1, h, j, hj => by
    rw [lu] at h
    cases hE : E (top a m) m with
    | some v => rw [hE] at h; cases h
    | none =>
      rw [hE] at h
      rcases Nat.lt_or_ge j m with h1 | h1
      · exact lu_none h j h1
      · obtain rfl : j = m := by omega
        exact hE
theorem lu_some {E : Nat → Nat → Option Int} {a : Nat} {e : En} : ∀ {m : Nat}, lu E a m = some e → ∃ j, j < m ∧ e.p = ⟨top a j, j⟩ ∧ E (top a j) j = some e.v ∧ ∀ i, j < i → i < m → E (top a i) i = none
  | 0, h => by cases h
  | m + 1, h => by
    rw [lu] at h
    cases hE : E (top a m) m with
    | some v =>
      rw [hE] at h
      cases h
      exact ⟨m, by omega, rfl, hE, fun i h1 h2 => by omega⟩
    | none =>
      rw [hE] at h
      obtain ⟨j, h1, h2, h3, h4⟩ := lu_some h
      refine ⟨j, by omega, h2, h3, fun i h5 h6 => ?_⟩
      rcases Nat.lt_or_ge i m with h7 | h7
      · exact h4 i h5 h7
      · obtain rfl : i = m := by omega
        exact hE
theorem setE_ne {E : Nat → Nat → Option Int} {p : Pf} {v : Int} {x k : Nat} (h : ¬(x = p.a ∧ k = p.n.toNat)) : setE E p v x k = E x k := by rw [setE, if_neg h]
theorem lu_setA {E : Nat → Nat → Option Int} {a : Nat} {p : Pf} {v : Int} {k : Nat} (hp : p = ⟨top a k, k⟩) : ∀ {m : Nat}, k < m → (∀ j, k < j → j < m → E (top a j) j = none) → lu (setE E p v) a m = some ⟨p, v⟩
  | 0, h, _ => by omega
  | m + 1, h, hn => by
    rw [lu]
    by_cases hk : m = k
    · subst hk
      rw [setE, if_pos (by rw [hp]; simp)]
      simp [hp]
    · rw [setE_ne (by rw [hp]; simp; intro _; exact hk), hn m (by omega) (by omega)]
      exact lu_setA hp (by omega) fun j h1 h2 => hn j h1 (by omega)
theorem lu_setB {E : Nat → Nat → Option Int} {a : Nat} {p : Pf} {v : Int} {k : Nat} (hp : p = ⟨top a k, k⟩) : ∀ {m : Nat}, (m ≤ k ∨ ∃ j, k < j ∧ j < m ∧ E (top a j) j ≠ none) → lu (setE E p v) a m = lu E a m
  | 0, _ => rfl
  | m + 1, h => by
    have hk : m ≠ k := by rcases h with h | ⟨j, h1, h2, _⟩ <;> omega
    rw [lu, lu, setE_ne (by rw [hp]; simp; intro _; exact hk)]
    cases hE : E (top a m) m with
    | some u => rfl
    | none =>
      refine lu_setB hp ?_
      rcases h with h | ⟨j, h1, h2, h3⟩
      · exact .inl (by omega)
      · rcases Nat.lt_or_ge j m with h7 | h7
        · exact .inr ⟨j, h1, h7, h3⟩
        · obtain rfl : j = m := by omega
          exact absurd hE h3
theorem lu_congr {E E' : Nat → Nat → Option Int} {a : Nat} : ∀ {m : Nat}, (∀ j, j < m → E' (top a j) j = E (top a j) j) → lu E' a m = lu E a m
  | 0, _ => rfl
  | m + 1, h => by
    rw [lu, lu, h m (by omega), lu_congr fun j hj => h j (by omega)]
/-- One step of the search for the longest. -/
def bestB (a : Nat) (o : Option En) (x : En) : Bool := x.p.has a && (o.isNone || decide ((o.getD En.zero).p.n ≤ x.p.n))
def bestS (a : Nat) (o : Option En) (x : En) : Option En := if bestB a o x then some x else o
def bestL (a : Nat) (L : List En) : Option En := L.foldl (bestS a) none
theorem look_put {E : Nat → Nat → Option Int} {a : Nat} {x : En} (hv : x.p.valid = true) : lookE (setE E x.p x.v) a = bestS a (lookE E a) x := by
  obtain ⟨v1, v2, v3⟩ := Pf.valid_iff.1 hv
  rw [lookE, lookE, pre_last, pre_last, bestS, bestB, Pf.has, hv, Bool.true_and]
  by_cases hh : top a x.p.n.toNat = x.p.a
  · rw [decide_eq_true hh, Bool.true_and]
    have hp : x.p = ⟨top a x.p.n.toNat, (x.p.n.toNat : Nat)⟩ := pf_eq hh.symm (show x.p.n = ((x.p.n.toNat : Nat) : Int) by omega)
    cases hl : lu E a 33 with
    | none =>
      rw [lu_setA hp (by omega) fun j h1 h2 => lu_none hl j h2]
      rfl
    | some e =>
      obtain ⟨j, h1, h2, h3, h4⟩ := lu_some hl
      have hn : e.p.n = j := by rw [h2]
      simp only [Option.isNone_some, Bool.false_or, Option.getD_some, hn]
      by_cases hjk : (j : Int) ≤ x.p.n
      · rw [decide_eq_true hjk, lu_setA hp (by omega) fun i h5 h6 => h4 i (by omega) h6]
        rfl
      · rw [decide_eq_false hjk, lu_setB hp (.inr ⟨j, by omega, h1, by rw [h3]; exact fun h => nomatch h⟩), hl]
        rfl
  · rw [decide_eq_false hh, Bool.false_and]
    refine lu_congr fun j hj => setE_ne ?_
    rintro ⟨e1, e2⟩
    subst e2
    exact hh e1
theorem look_best {a : Nat} {L : List En} (hok : allOk L = true) : lookE (ofS L).1 a = bestL a L := by
  have key : ∀ (L : List En) (s : St) (o : Option En), allOk L = true → lookE s.1 a = o → lookE (L.foldl putS s).1 a = L.foldl (bestS a) o := by
    intro L
    induction L with
    | nil => intro s o _ h; exact h
    | cons x r ih =>
      intro s o hok h
      unfold allOk at hok
      rw [List.all_cons, Bool.and_eq_true] at hok
      exact ih (putS s x) (bestS a o x) hok.2 (by rw [putS]; simp only; rw [look_put hok.1, h])
  have hz : ∀ m, lu (fun _ _ => none) a m = none := fun m => by
    induction m with
    | zero => rfl
    | succ m ih => rw [lu]; exact ih
  exact key L St.zero none hok (by rw [lookE, pre_last]; exact hz 33)
end Go.Proofs.Ytjpnaofoeeegeaa


/-
  Tables (layer 7), in plain lists: what Check demands; lookups and the trie's lookups; the addresses at which lookups may change.
  Conditions: addresses are below 2^32.
-/
namespace Go.Proofs.Ytjpnaofoeeegeaa
open Go.RowKit

theorem cmp_ge {p q : Pf} : 0 ≤ cmpP p q ↔ ¬pLt p q := by
  unfold cmpP
  split
  · rename_i h; exact ⟨fun h2 => absurd h2 (by decide), fun h2 => absurd h h2⟩
  · rename_i h
    split
    · exact ⟨fun _ => h, fun _ => by decide⟩
    · exact ⟨fun _ => h, fun _ => by decide⟩
/-- What a table is. -/
structure Tb (L : List En) : Prop where
  ok : ∀ e ∈ L, e.p.valid = true ∧ -1 ≤ e.v
  srt : Srt L
theorem chkF_iff : ∀ (L : List En) (pr : Option Pf), chkF pr L = 0 ↔ (∀ e ∈ L, e.p.valid = true ∧ -1 ≤ e.v) ∧ (∀ q, pr = some q → ∀ e ∈ L, pLt q e.p) ∧ Srt L
  | [], pr => by simp [chkF]
  | x :: l, pr => by
    have he : chkF pr (x :: l) = if x.p.valid = false then 1 else if x.v < -1 then 5 else if (match pr with | none => false | some q => decide (0 ≤ cmpP q x.p)) = true then 16 else chkF (some x.p) l := by cases pr <;> rfl
    rw [he]
    clear he
    by_cases hv : x.p.valid = true
    · rw [if_neg (by rw [hv]; decide)]
      by_cases hx : x.v < -1
      · rw [if_pos hx]
        exact ⟨fun h => absurd h (by decide), fun h => absurd (h.1 x (List.mem_cons_self ..)).2 (by omega)⟩
      · rw [if_neg hx]
        by_cases ho : (match pr with | none => false | some q => decide (0 ≤ cmpP q x.p)) = true
        · rw [if_pos ho]
          refine ⟨fun h => absurd h (by decide), fun h => ?_⟩
          cases pr with
          | none => cases ho
          | some q => exact absurd (h.2.1 q rfl x (List.mem_cons_self ..)) (cmp_ge.1 (of_decide_eq_true ho))
        · rw [if_neg ho, chkF_iff l (some x.p)]
          constructor
          · rintro ⟨h1, h2, h3⟩
            refine ⟨fun e he => ?_, fun q hq e he => ?_, List.pairwise_cons.2 ⟨h2 x.p rfl, h3⟩⟩
            · rcases List.mem_cons.1 he with rfl | he
              · exact ⟨hv, by omega⟩
              · exact h1 e he
            · subst hq
              have hqx : pLt q x.p := Classical.byContradiction fun h => ho (decide_eq_true (cmp_ge.2 h))
              rcases List.mem_cons.1 he with rfl | he
              · exact hqx
              · exact pLt_trans hqx (h2 x.p rfl e he)
          · rintro ⟨h1, h2, h3⟩
            obtain ⟨h4, h5⟩ := List.pairwise_cons.1 h3
            exact ⟨fun e he => h1 e (List.mem_cons_of_mem _ he), fun q hq e he => by cases hq; exact h4 e he, h5⟩
    · rw [if_pos (by simpa using hv)]
      exact ⟨fun h => absurd h (by decide), fun h => absurd (h.1 x (List.mem_cons_self ..)).1 hv⟩
theorem chk_iff {L : List En} : chk L = 0 ↔ L.length ≤ 2000 ∧ Tb L := by
  unfold chk
  split
  · exact ⟨fun h => absurd h (by decide), fun h => absurd h.1 (by omega)⟩
  · rw [chkF_iff]
    exact ⟨fun h => ⟨by omega, h.1, h.2.2⟩, fun h => ⟨h.2.ok, (fun q hq => nomatch hq), h.2.srt⟩⟩
theorem Tb.allOk {L : List En} (h : Tb L) : allOk L = true := List.all_eq_true.2 fun e he => (h.ok e he).1
theorem Tb.sub {L M : List En} (h : Tb L) (hs : List.Sublist M L) : Tb M := ⟨fun e he => h.ok e (hs.subset he), h.srt.sublist hs⟩
/-! ### Which addresses a prefix has -/
theorem has_iff {p : Pf} {a : Nat} (hv : p.valid = true) : p.has a = true ↔ p.a ≤ a ∧ a ≤ p.last := by
  obtain ⟨v1, v2, v3⟩ := Pf.valid_iff.1 hv
  rw [Pf.has, hv, Bool.true_and, decide_eq_true_eq, Pf.last, if_pos hv]
  have hp : 0 < 2 ^ (32 - p.n.toNat) := Nat.two_pow_pos _
  unfold top at v3 ⊢
  generalize 2 ^ (32 - p.n.toNat) = g at v3 hp ⊢
  constructor
  · intro h
    have := Nat.div_mul_le_self a g
    have h2 := Nat.lt_div_mul_add (a := a) hp
    omega
  · rintro ⟨h1, h2⟩
    have h3 : p.a / g ≤ a / g := Nat.div_le_div_right h1
    have h4 : a / g ≤ p.a / g := by
      refine Nat.le_of_lt_succ ((Nat.div_lt_iff_lt_mul hp).2 ?_)
      rw [Nat.succ_mul, v3]; omega
    rw [show a / g = p.a / g by omega, v3]
theorem has_valid {p : Pf} {a : Nat} (h : p.has a = true) : p.valid = true := by
  rw [Pf.has, Bool.and_eq_true] at h; exact h.1
theorem has_same {p q : Pf} {a : Nat} (hp : p.has a = true) (hq : q.has a = true) (hn : p.n = q.n) : p = q := by
  rw [Pf.has, Bool.and_eq_true, decide_eq_true_eq] at hp hq
  exact pf_eq (by rw [← hp.2, ← hq.2, hn]) hn

/-! ### The trie's lookup -/
theorem best_snoc (a : Nat) (L : List En) (x : En) : bestL a (L ++ [x]) = bestS a (bestL a L) x := by unfold bestL; rw [List.foldl_append]; rfl
theorem best_in {a : Nat} {L : List En} {e : En} : bestL a L = some e → e ∈ L ∧ e.p.has a = true := by
  refine en_ind (P := fun L => bestL a L = some e → e ∈ L ∧ e.p.has a = true) (fun h => nomatch h) (fun L x ih h => ?_) L
  rw [best_snoc, bestS] at h
  split at h
  · rename_i hb
    cases h
    rw [bestB, Bool.and_eq_true] at hb
    exact ⟨List.mem_append.2 (.inr (List.mem_singleton.2 rfl)), hb.1⟩
  · obtain ⟨h1, h2⟩ := ih h
    exact ⟨List.mem_append.2 (.inl h1), h2⟩
def enS : Option En → Int × Int
  | none => (-1, -1)
  | some e => (e.v, e.p.n)
theorem lk_best (a : Nat) (L : List En) : Tb L → L.foldl (lkS a) (-1, -1) = enS (bestL a L) := by
  refine en_ind (P := fun L => Tb L → L.foldl (lkS a) (-1, -1) = enS (bestL a L)) (fun _ => rfl) (fun L x ih h => ?_) L
  rw [List.foldl_append, ih (h.sub (List.sublist_append_left ..)), best_snoc]
  have hx := h.ok x (List.mem_append.2 (.inr (List.mem_singleton.2 rfl)))
  obtain ⟨v1, v2, v3⟩ := Pf.valid_iff.1 hx.1
  show lkS a (enS (bestL a L)) x = enS (bestS a (bestL a L) x)
  rw [lkS, bestS, bestB]
  cases hh : x.p.has a with
  | false => simp
  | true =>
    cases hb : bestL a L with
    | none =>
      have hd : decide ((enS none).2 < x.p.n) = true := decide_eq_true (show (-1 : Int) < x.p.n by omega)
      rw [hd]; rfl
    | some e =>
      obtain ⟨h1, h2⟩ := best_in hb
      have hne : e.p.n ≠ x.p.n := fun e1 => by
        have e2 := has_same h2 hh e1
        have := (List.pairwise_append.1 h.srt).2.2 e h1 x (List.mem_singleton.2 rfl)
        rw [e2] at this
        exact pLt_irrefl _ this
      by_cases hlt : e.p.n < x.p.n
      · have hd : decide ((enS (some e)).2 < x.p.n) = true := decide_eq_true hlt
        have hd2 : decide (((some e).getD En.zero).p.n ≤ x.p.n) = true := decide_eq_true (Int.le_of_lt hlt)
        rw [hd, hd2]; rfl
      · have hd : decide ((enS (some e)).2 < x.p.n) = false := decide_eq_false hlt
        have hd2 : decide (((some e).getD En.zero).p.n ≤ x.p.n) = false := decide_eq_false (show ¬e.p.n ≤ x.p.n by omega)
        rw [hd, hd2]; rfl
/-- The lookup as the best entry's value. -/
theorem lk_eq {L : List En} (a : Nat) (h : Tb L) : lk L a = match bestL a L with | none => -1 | some e => e.v := by
  rw [lk, lk_best a L h]; cases bestL a L <;> rfl

/-! ### Lookups between the bounds -/
theorem fold_congr {α β : Type} {f g : α → β → α} : ∀ (L : List β) (s : α), (∀ s, ∀ x ∈ L, f s x = g s x) → L.foldl f s = L.foldl g s
  | [], _, _ => rfl
  | x :: l, s, h => by
    rw [List.foldl_cons, List.foldl_cons, h s x (List.mem_cons_self ..)]
    exact fold_congr l _ fun s y hy => h s y (List.mem_cons_of_mem _ hy)
theorem words_mem {L : List En} {x : Int} : x ∈ words L ↔ ∃ e ∈ L, x = e.p.a ∨ x = (e.p.last : Int) + 1 := by
  unfold words
  rw [List.mem_flatMap]
  simp
/-- Between two bounds a lookup does not change. -/
theorem lk_const {L : List En} (hv : ∀ e ∈ L, e.p.valid = true) {x d : Nat} (hd : d ≤ x) (h : ∀ b ∈ words L, b ≤ (x : Int) → b ≤ (d : Int)) : lk L x = lk L d := by
  unfold lk
  congr 1
  refine fold_congr L _ fun s e he => ?_
  have hve := hv e he
  have h1 : e.p.has x = e.p.has d := by
    rw [Bool.eq_iff_iff, has_iff hve, has_iff hve]
    have h2 := h e.p.a (words_mem.2 ⟨e, he, .inl rfl⟩)
    have h3 := h ((e.p.last : Int) + 1) (words_mem.2 ⟨e, he, .inr rfl⟩)
    omega
  rw [lkS, lkS, h1]

/-! ### The list of bounds -/
theorem words_range {L : List En} (ha : ∀ e ∈ L, e.p.a < 4294967296) {x : Int} (hx : x ∈ words L) : 0 ≤ x ∧ x ≤ 4294967296 := by
  obtain ⟨e, he, h⟩ := words_mem.1 hx
  have := last_lt' e.p (ha e he)
  have := ha e he
  omega
/-! ### Differ -/
end Go.Proofs.Ytjpnaofoeeegeaa


/-
  Tables (layer 7): Differ and Same, of the program and of the reference.
  Conditions: the lists are not too long for a machine.
-/
namespace Go.Proofs.Ytjpnaofoeeegeaa
open Go.RowKit

theorem lookO_eq {L : List En} (a : Nat) (h : Tb L) : lookO (ofS L).1 a = lk L a := by
  rw [lookO, look_best h.allOk, lk_eq a h]
  cases bestL a L <;> rfl
end Go.Proofs.Ytjpnaofoeeegeaa


/-
  Tables (layer 7), in plain lists: the tree of Minimal, what it chooses, and that no table with the same lookups is shorter.
  Conditions: addresses are below 2^32.
-/
namespace Go.Proofs.Ytjpnaofoeeegeaa
open Go.RowKit

/-! ### Lookups within a prefix -/
/-- The lookup in a list, v being what holds without it. -/
def lkD (L : List En) (v : Int) (a : Nat) : Int := (L.foldl (lkS a) (v, -1)).1
theorem lkD_lk (L : List En) (a : Nat) : lkD L (-1) a = lk L a := rfl
theorem has_top {p : Pf} {a k : Nat} (h : p.has a = true) (hk : (k : Int) ≤ p.n) : top a k = top p.a k := by
  obtain ⟨v1, v2, v3⟩ := Pf.valid_iff.1 (has_valid h)
  rw [Pf.has, Bool.and_eq_true, decide_eq_true_eq] at h
  rw [← h.2, top_top a (by omega) (by omega)]
theorem fold_filter {a : Nat} (q : En → Bool) : ∀ (l : List En) (s : Int × Int), (∀ e ∈ l, q e = false → e.p.has a = false) → l.foldl (lkS a) s = (l.filter q).foldl (lkS a) s
  | [], _, _ => rfl
  | e :: l, s, h => by
    have ih := fun s => fold_filter q l s fun x hx => h x (List.mem_cons_of_mem _ hx)
    cases hq : q e with
    | true => rw [List.filter_cons_of_pos hq, List.foldl_cons, List.foldl_cons, ih]
    | false => rw [List.filter_cons_of_neg (by rw [hq]; decide), List.foldl_cons, lkS, h e (List.mem_cons_self ..) hq, Bool.and_false]; exact ih s
/-- From where the search starts does not matter, if all entries are longer. -/
theorem fold_start {a : Nat} (v n m : Int) : ∀ (l : List En), (∀ e ∈ l, n < e.p.n ∧ m < e.p.n) → (l.foldl (lkS a) (v, n)).1 = (l.foldl (lkS a) (v, m)).1
  | [], _ => rfl
  | e :: l, h => by
    obtain ⟨h1, h2⟩ := h e (List.mem_cons_self ..)
    rw [List.foldl_cons, List.foldl_cons, lkS, lkS, decide_eq_true h1, decide_eq_true h2]
    cases hh : e.p.has a with
    | true => rfl
    | false => exact fold_start v n m l fun x hx => h x (List.mem_cons_of_mem _ hx)

/-! ### A list within a prefix -/
/-- Entries in order, all within the prefix x/k. -/
structure Wi (x k : Nat) (l : List En) : Prop where
  ok : ∀ e ∈ l, e.p.valid = true ∧ top e.p.a k = x ∧ (k : Int) ≤ e.p.n
  srt : Srt l
def popL (x k : Nat) : List En → List En
  | [] => []
  | e :: r => if e.p = ⟨x, k⟩ then r else e :: r
def popV (x k : Nat) (v : Int) : List En → Int
  | [] => v
  | e :: _ => if e.p = ⟨x, k⟩ then e.v else v
theorem Wi.longer {x k : Nat} {e : En} (hv : e.p.valid = true) (ht : top e.p.a k = x) (hk : (k : Int) ≤ e.p.n) (hne : e.p ≠ ⟨x, k⟩) : ((k + 1 : Nat) : Int) ≤ e.p.n := by
  obtain ⟨v1, v2, v3⟩ := Pf.valid_iff.1 hv
  rcases Int.lt_or_eq_of_le hk with h | h
  · omega
  · exfalso
    refine hne (pf_eq ?_ h.symm)
    have : e.p.n.toNat = k := by omega
    rw [this] at v3
    rw [← v3, ht]
theorem pop_mem {x k : Nat} {l : List En} (h : Wi x k l) : ∀ e ∈ popL x k l, e ∈ l ∧ ((k + 1 : Nat) : Int) ≤ e.p.n := by
  intro e he
  cases l with
  | nil => cases he
  | cons d r =>
    obtain ⟨h1, h2⟩ := List.pairwise_cons.1 h.srt
    rw [popL] at he
    split at he
    · rename_i hd
      have hm : e ∈ d :: r := List.mem_cons_of_mem _ he
      obtain ⟨o1, o2, o3⟩ := h.ok e hm
      exact ⟨hm, Wi.longer o1 o2 o3 fun q => by have := h1 e he; rw [hd, q] at this; exact pLt_irrefl _ this⟩
    · rename_i hd
      obtain ⟨o1, o2, o3⟩ := h.ok e he
      refine ⟨he, Wi.longer o1 o2 o3 fun q => ?_⟩
      rcases List.mem_cons.1 he with rfl | he2
      · exact hd q
      · have h3 := h1 e he2
        obtain ⟨d1, d2, d3⟩ := h.ok d (List.mem_cons_self ..)
        rw [q] at h3
        rcases h3 with h3 | ⟨h3, h4⟩
        · have := top_le d.p.a k
          rw [d2] at this
          simp only at h3; omega
        · simp only at h4; omega
theorem pop_srt {x k : Nat} {l : List En} (h : Wi x k l) : Srt (popL x k l) := by
  cases l with
  | nil => exact List.Pairwise.nil
  | cons d r =>
    rw [popL]
    split
    · exact (List.pairwise_cons.1 h.srt).2
    · exact h.srt
theorem pop_wi {x k : Nat} {l : List En} (h : Wi x k l) : Wi x k (popL x k l) := ⟨fun e he => h.ok e (pop_mem h e he).1, pop_srt h⟩
theorem pop_at {x k : Nat} {l : List En} (h : Wi x k l) {a : Nat} (ha : top a k = x) (hk : k ≤ 32) (v : Int) : lkD l v a = lkD (popL x k l) (popV x k v l) a := by
  cases l with
  | nil => rfl
  | cons d r =>
    have hp := pop_mem h
    rw [popL] at hp
    rw [popL, popV]
    split
    · rename_i hd
      rw [if_pos hd] at hp
      have hv := (h.ok d (List.mem_cons_self ..)).1
      have hh : d.p.has a = true := by
        rw [Pf.has, hv, Bool.true_and, decide_eq_true_eq, hd]; exact ha
      unfold lkD
      have hn : d.p.n = k := by rw [hd]
      rw [List.foldl_cons, lkS, hh, Bool.and_true, decide_eq_true (show ((v, -1) : Int × Int).2 < d.p.n by show (-1 : Int) < d.p.n; omega), if_pos rfl]
      exact fold_start _ _ _ r fun e he => by have := (hp e he).2; omega
    · rfl
def halfL (x k bit : Nat) (l : List En) : List En := l.filter (underB (kidA x k bit) (k + 1))
theorem half_wi {x k bit : Nat} {l : List En} (hs : Srt l) (hv : ∀ e ∈ l, e.p.valid = true) : Wi (kidA x k bit) (k + 1) (halfL x k bit l) :=
  ⟨fun e he => by
    obtain ⟨h1, h2⟩ := List.mem_filter.1 he
    rw [underB, Bool.and_eq_true, decide_eq_true_eq, decide_eq_true_eq] at h2
    exact ⟨hv e h1, h2⟩, hs.sublist List.filter_sublist⟩
theorem kid_ne {x k : Nat} : kidA x k 0 ≠ kidA x k 1 := by
  have : 0 < 2 ^ (31 - k) := Nat.two_pow_pos _
  unfold kidA; omega
theorem half_not {x k : Nat} (hk : k < 32) {e : En} (ht : top e.p.a k = x) (hn : ((k + 1 : Nat) : Int) ≤ e.p.n) : underB (kidA x k 1) (k + 1) e = !underB (kidA x k 0) (k + 1) e := by
  unfold underB
  rw [decide_eq_true hn, Bool.and_true, Bool.and_true]
  rcases top_split hk ht with h | h
  · rw [h, decide_eq_true rfl, decide_eq_false kid_ne]; rfl
  · rw [h, decide_eq_true rfl, decide_eq_false (Ne.symm kid_ne)]; rfl
theorem half_len {x k : Nat} (hk : k < 32) {l : List En} (h : ∀ e ∈ l, top e.p.a k = x ∧ ((k + 1 : Nat) : Int) ≤ e.p.n) : l.length = (halfL x k 0 l).length + (halfL x k 1 l).length := by
  unfold halfL
  induction l with
  | nil => rfl
  | cons e r ih =>
    obtain ⟨h1, h2⟩ := h e (List.mem_cons_self ..)
    have ih := ih fun y hy => h y (List.mem_cons_of_mem _ hy)
    have hn := half_not hk h1 h2
    cases hu : underB (kidA x k 0) (k + 1) e with
    | true =>
      rw [hu] at hn
      rw [List.filter_cons_of_pos hu, List.filter_cons_of_neg (by rw [hn]; decide), List.length_cons, List.length_cons]; omega
    | false =>
      rw [hu] at hn
      rw [List.filter_cons_of_neg (by rw [hu]; decide), List.filter_cons_of_pos hn, List.length_cons, List.length_cons]; omega
theorem half_at {x k bit : Nat} {l : List En} (h : ∀ e ∈ l, ((k + 1 : Nat) : Int) ≤ e.p.n) {a : Nat} (ha : top a (k + 1) = kidA x k bit) (v : Int) : lkD l v a = lkD (halfL x k bit l) v a := by
  unfold lkD halfL
  rw [fold_filter]
  intro e he hq
  cases hh : e.p.has a with
  | false => rfl
  | true =>
    have hn := h e he
    have := has_top hh hn
    rw [ha] at this
    rw [underB, decide_eq_true this.symm, decide_eq_true hn] at hq
    cases hq

/-! ### The tree -/
inductive Tr where
  | leaf (v : Int)
  | node (a b : Tr)
def bothL (A B : List Int) : List Int := A.filter fun v => decide (v ∈ B)
def joinL (A B : List Int) : List Int := if bothL A B = [] then A ++ B else bothL A B
def Tr.set : Tr → List Int
  | .leaf v => [v]
  | .node a b => joinL a.set b.set
def Tr.at : Tr → Nat → Nat → Int
  | .leaf v, _, _ => v
  | .node a b, k, x => if bitAt x k = 0 then a.at (k + 1) x else b.at (k + 1) x
def Tr.cost : Tr → Nat
  | .leaf _ => 0
  | .node a b => a.cost + b.cost + if bothL a.set b.set = [] then 1 else 0
def Tr.fits : Tr → Nat → Prop
  | .leaf _, _ => True
  | .node a b, k => k < 32 ∧ a.fits (k + 1) ∧ b.fits (k + 1)
def grow : Nat → Nat → Nat → List En → Int → Tr
  | 0, x, k, l, v => .leaf (popV x k v l)
  | f + 1, x, k, l, v => if (popL x k l).isEmpty then .leaf (popV x k v l) else .node (grow f (kidA x k 0) (k + 1) (halfL x k 0 (popL x k l)) (popV x k v l)) (grow f (kidA x k 1) (k + 1) (halfL x k 1 (popL x k l)) (popV x k v l))
theorem join_mem {A B : List Int} {y : Int} : y ∈ joinL A B ↔ if bothL A B = [] then y ∈ A ∨ y ∈ B else y ∈ A ∧ y ∈ B := by
  unfold joinL
  split
  · rw [List.mem_append]
  · rw [bothL, List.mem_filter, decide_eq_true_eq]
theorem both_nil {A B : List Int} : bothL A B = [] ↔ ∀ y ∈ A, y ∉ B := by
  unfold bothL
  rw [List.filter_eq_nil_iff]
  simp
theorem join_ne {A B : List Int} (h : A ≠ []) : joinL A B ≠ [] := by
  unfold joinL
  split
  · intro e; exact h (List.append_eq_nil_iff.1 e).1
  · rename_i h; exact h
theorem Tr.set_ne : ∀ t : Tr, t.set ≠ []
  | .leaf v => by simp [Tr.set]
  | .node a b => join_ne a.set_ne
theorem bit_of {x k a bit : Nat} (hk : k < 32) (ha : top a (k + 1) = kidA x k bit) (hx : top x k = x) (hb : bit < 2) : bitAt a k = bit := by
  have h1 := top_kid a hk
  have h2 := kid_top hk hx hb
  have h3 : top a k = x := by rw [← top_top a (j := k) (k := k + 1) (by omega) (by omega), ha, h2.2]
  rw [h3, ha] at h1
  exact (kid_inj hk hx hx hb (bit_lt a k) h1).2.symm
theorem kid_of {x k a : Nat} (hk : k < 32) (ha : top a k = x) : (bitAt a k = 0 → top a (k + 1) = kidA x k 0) ∧ (bitAt a k ≠ 0 → top a (k + 1) = kidA x k 1) := by
  have h1 := top_kid a hk
  have h2 := bit_lt a k
  rw [ha] at h1
  refine ⟨fun h => by rw [h1, h], fun h => ?_⟩
  rw [h1, show bitAt a k = 1 by omega]
theorem wi_full {x : Nat} {l : List En} (h : Wi x 32 l) : popL x 32 l = [] := by
  refine List.eq_nil_iff_forall_not_mem.2 fun e he => ?_
  obtain ⟨h1, h2⟩ := pop_mem h e he
  obtain ⟨v1, v2, v3⟩ := Pf.valid_iff.1 (h.ok e h1).1
  omega
/-- The tree's value at an address is the lookup. -/
theorem grow_at : ∀ (f x k : Nat) (l : List En) (v : Int), k + f = 32 → Wi x k l → ∀ a, top a k = x → (grow f x k l v).at k a = lkD l v a
  | 0, x, k, l, v, hk, h, a, ha => by
    obtain rfl : k = 32 := by omega
    rw [grow, pop_at h ha (by omega), wi_full h]; rfl
  | f + 1, x, k, l, v, hk, h, a, ha => by
    have hk32 : k < 32 := by omega
    have hw := pop_wi h
    have hm := fun e he => (pop_mem h e he).2
    rw [grow, pop_at h ha (by omega)]
    split
    · rename_i he
      rw [List.isEmpty_iff.1 he]; rfl
    · rw [Tr.at]
      obtain ⟨k0, k1⟩ := kid_of hk32 ha
      split
      · rename_i hb
        rw [half_at hm (k0 hb), grow_at f _ _ _ _ (by omega) (half_wi hw.srt fun e he => (hw.ok e he).1) a (k0 hb)]
      · rename_i hb
        rw [half_at hm (k1 hb), grow_at f _ _ _ _ (by omega) (half_wi hw.srt fun e he => (hw.ok e he).1) a (k1 hb)]
theorem grow_fits : ∀ (f x k : Nat) (l : List En) (v : Int), k + f = 32 → (grow f x k l v).fits k
  | 0, x, k, l, v, hk => trivial
  | f + 1, x, k, l, v, hk => by
    rw [grow]
    split
    · trivial
    · exact ⟨by omega, grow_fits f _ _ _ _ (by omega), grow_fits f _ _ _ _ (by omega)⟩

/-! ### What is chosen -/
def leastL : List Int → Int
  | [] => 0
  | v :: r => r.foldl min v
theorem foldmin_mem : ∀ (r : List Int) (v : Int), r.foldl min v ∈ v :: r
  | [], v => List.mem_cons_self ..
  | x :: r, v => by
    rw [List.foldl_cons]
    have := foldmin_mem r (min v x)
    rcases List.mem_cons.1 this with h | h
    · rw [h]
      rcases Int.le_total v x with c | c
      · rw [Int.min_eq_left c]; exact List.mem_cons_self ..
      · rw [Int.min_eq_right c]; exact List.mem_cons_of_mem _ (List.mem_cons_self ..)
    · exact List.mem_cons_of_mem _ (List.mem_cons_of_mem _ h)
theorem least_mem {L : List Int} (h : L ≠ []) : leastL L ∈ L := by
  cases L with
  | nil => exact absurd rfl h
  | cons v r => exact foldmin_mem r v
theorem foldmin_le : ∀ (r : List Int) (v : Int), ∀ y ∈ v :: r, r.foldl min v ≤ y
  | [], v, y, hy => by
    obtain rfl := List.mem_singleton.1 hy
    exact Int.le_refl _
  | x :: r, v, y, hy => by
    rw [List.foldl_cons]
    have h0 := foldmin_le r (min v x) _ (List.mem_cons_self ..)
    rcases List.mem_cons.1 hy with e | hy
    · omega
    · rcases List.mem_cons.1 hy with e | hy
      · omega
      · exact foldmin_le r (min v x) y (List.mem_cons_of_mem _ hy)
theorem least_le {L : List Int} {y : Int} (h : y ∈ L) : leastL L ≤ y := by
  cases L with
  | nil => cases h
  | cons v r => exact foldmin_le r v y h
/-- What holds inside: v if it is among the best, otherwise the least of these. -/
def pick (S : List Int) (v : Int) : Int := if v ∈ S then v else leastL S
def choose1 (S : List Int) (x k : Nat) (v : Int) : List En := if v ∈ S then [] else [⟨⟨x, k⟩, leastL S⟩]
def choose : Tr → Nat → Nat → Int → List En
  | .leaf u, x, k, v => choose1 [u] x k v
  | .node a b, x, k, v => choose1 (joinL a.set b.set) x k v ++ (choose a (kidA x k 0) (k + 1) (pick (joinL a.set b.set) v) ++ choose b (kidA x k 1) (k + 1) (pick (joinL a.set b.set) v))
def out1 (S : List Int) (v : Int) : Nat := if v ∈ S then 0 else 1
theorem pick_mem {S : List Int} (h : S ≠ []) (v : Int) : pick S v ∈ S := by
  unfold pick
  split
  · assumption
  · exact least_mem h
theorem choose1_len (S : List Int) (x k : Nat) (v : Int) : (choose1 S x k v).length = out1 S v := by
  unfold choose1 out1; split <;> rfl
theorem join_out {A B : List Int} (v : Int) (hv : v ∈ joinL A B) : out1 A v + out1 B v = if bothL A B = [] then 1 else 0 := by
  rw [join_mem] at hv
  unfold out1
  by_cases h : bothL A B = []
  · rw [if_pos h] at hv ⊢
    have hb := both_nil.1 h
    rcases hv with h1 | h1
    · rw [if_pos h1, if_neg (hb v h1)]
    · rw [if_pos h1, if_neg (fun h2 => hb v h2 h1)]
  · rw [if_neg h] at hv ⊢
    rw [if_pos hv.1, if_pos hv.2]
theorem join_le {A B : List Int} (v : Int) : (if bothL A B = [] then 1 else 0) + out1 (joinL A B) v ≤ out1 A v + out1 B v := by
  have hm := join_mem (A := A) (B := B) (y := v)
  unfold out1
  by_cases h : bothL A B = []
  · rw [if_pos h] at hm ⊢
    have hb := both_nil.1 h
    by_cases h1 : v ∈ A
    · rw [if_pos (hm.2 (.inl h1)), if_pos h1, if_neg (hb v h1)]; decide
    · by_cases h2 : v ∈ B
      · rw [if_pos (hm.2 (.inr h2)), if_neg h1, if_pos h2]; decide
      · rw [if_neg (fun h => (hm.1 h).elim h1 h2), if_neg h1, if_neg h2]; decide
  · rw [if_neg h] at hm ⊢
    by_cases h1 : v ∈ A
    · by_cases h2 : v ∈ B
      · rw [if_pos (hm.2 ⟨h1, h2⟩), if_pos h1, if_pos h2]; decide
      · rw [if_neg (fun h => h2 (hm.1 h).2), if_pos h1, if_neg h2]; decide
    · rw [if_neg (fun h => h1 (hm.1 h).1), if_neg h1]; split <;> decide
theorem out1_le (S : List Int) (v : Int) : out1 S v ≤ 1 := by unfold out1; split <;> decide
theorem choose_len : ∀ (t : Tr) (x k : Nat) (v : Int), (choose t x k v).length = t.cost + out1 t.set v
  | .leaf u, x, k, v => by rw [choose, choose1_len, Tr.cost, Tr.set, Nat.zero_add]
  | .node a b, x, k, v => by
    rw [choose, List.length_append, List.length_append, choose1_len, choose_len a, choose_len b, Tr.cost, Tr.set]
    have := join_out _ (pick_mem (join_ne (B := b.set) a.set_ne) v)
    omega
theorem choose1_mem {S : List Int} {x k : Nat} {v : Int} {e : En} (he : e ∈ choose1 S x k v) : e = ⟨⟨x, k⟩, leastL S⟩ := by
  unfold choose1 at he
  split at he
  · cases he
  · exact List.mem_singleton.1 he
theorem choose_wi : ∀ (t : Tr) (x k : Nat) (v : Int), t.fits k → top x k = x → x < 4294967296 → k ≤ 32 → Wi x k (choose t x k v) ∧ ∀ e ∈ choose t x k v, e.p.a < 4294967296
  | .leaf u, x, k, v, _, hx, hl, hk => by
    have key : ∀ e ∈ choose1 [u] x k v, e.p = ⟨x, k⟩ := fun e he => by rw [choose1_mem he]
    refine ⟨⟨fun e he => ?_, ?_⟩, fun e he => by rw [key e he]; exact hl⟩
    · rw [key e he]; exact ⟨Pf.valid_iff.2 ⟨by simp, by simp; omega, by simpa using hx⟩, hx, Int.le_refl _⟩
    · rw [choose]; unfold choose1; split
      · exact List.Pairwise.nil
      · exact List.pairwise_singleton ..
  | .node a b, x, k, v, hf, hx, hl, hk => by
    obtain ⟨hk32, fa, fb⟩ := hf
    obtain ⟨a1, a2⟩ := kid_top hk32 hx (bit := 0) (by omega)
    obtain ⟨b1, b2⟩ := kid_top hk32 hx (bit := 1) (by omega)
    have la := kid_lt hk32 hx (bit := 0) (by omega) hl
    have lb := kid_lt hk32 hx (bit := 1) (by omega) hl
    have hp : 0 < 2 ^ (31 - k) := Nat.two_pow_pos _
    have hab : kidA x k 0 < kidA x k 1 ∧ x ≤ kidA x k 0 := by unfold kidA; omega
    rw [choose]
    generalize hS : joinL a.set b.set = S
    obtain ⟨wa, na⟩ := choose_wi a (kidA x k 0) (k + 1) (pick S v) fa a1 la (by omega)
    obtain ⟨wb, nb⟩ := choose_wi b (kidA x k 1) (k + 1) (pick S v) fb b1 lb (by omega)
    have key : ∀ e ∈ choose1 S x k v, e.p = ⟨x, k⟩ := fun e he => by rw [choose1_mem he]
    have up : ∀ bit, bit < 2 → ∀ e : En, top e.p.a (k + 1) = kidA x k bit → top e.p.a k = x := fun bit hb e he => by
      rw [← top_top e.p.a (j := k) (k := k + 1) (by omega) (by omega), he, (kid_top hk32 hx hb).2]
    refine ⟨⟨fun e he => ?_, ?_⟩, fun e he => ?_⟩
    · rcases List.mem_append.1 he with he | he
      · rw [key e he]; exact ⟨Pf.valid_iff.2 ⟨by simp, by simp; omega, by simpa using hx⟩, hx, Int.le_refl _⟩
      · rcases List.mem_append.1 he with he | he
        · obtain ⟨o1, o2, o3⟩ := wa.ok e he
          exact ⟨o1, up 0 (by omega) e o2, by omega⟩
        · obtain ⟨o1, o2, o3⟩ := wb.ok e he
          exact ⟨o1, up 1 (by omega) e o2, by omega⟩
    · refine List.pairwise_append.2 ⟨?_, List.pairwise_append.2 ⟨wa.srt, wb.srt, fun d hd e he => ?_⟩, fun d hd e he => ?_⟩
      · unfold choose1; split
        · exact List.Pairwise.nil
        · exact List.pairwise_singleton ..
      · obtain ⟨_, d2, d3⟩ := wa.ok d hd
        obtain ⟨_, e2, _⟩ := wb.ok e he
        refine .inl (Nat.lt_of_not_le fun h => ?_)
        have := top_mono (c := k + 1) h
        rw [d2, e2] at this
        omega
      · rw [key d hd]
        rcases List.mem_append.1 he with he | he
        · obtain ⟨_, e2, e3⟩ := wa.ok e he
          have := top_le e.p.a (k + 1)
          rw [e2] at this
          rcases Nat.lt_or_eq_of_le (Nat.le_trans hab.2 this) with h | h
          · exact .inl h
          · exact .inr ⟨h, show (k : Int) < e.p.n by omega⟩
        · obtain ⟨_, e2, e3⟩ := wb.ok e he
          have := top_le e.p.a (k + 1)
          rw [e2] at this
          exact .inl (show x < e.p.a by omega)
    · rcases List.mem_append.1 he with he | he
      · rw [key e he]; exact hl
      · rcases List.mem_append.1 he with he | he
        · exact na e he
        · exact nb e he
/-- The lookups of what is chosen are the tree's values. -/
theorem choose_at : ∀ (t : Tr) (x k : Nat) (v : Int), t.fits k → top x k = x → x < 4294967296 → k ≤ 32 → ∀ a, top a k = x → lkD (choose t x k v) v a = t.at k a
  | .leaf u, x, k, v, _, hx, hl, hk, a, ha => by
    rw [choose, Tr.at, choose1]
    split
    · rename_i h
      rw [List.mem_singleton.1 h]; rfl
    · have hh : (⟨x, k⟩ : Pf).has a = true := by
        rw [Pf.has, Pf.valid_iff.2 ⟨by simp, by simp; omega, by simpa using hx⟩, Bool.true_and, decide_eq_true_eq]; exact ha
      unfold lkD
      rw [List.foldl_cons, lkS, hh, Bool.and_true, if_pos (decide_eq_true (show (-1 : Int) < (k : Int) by omega))]
      rfl
  | .node t1 t2, x, k, v, hf, hx, hl, hk, a, ha => by
    have hwi := choose_wi (.node t1 t2) x k v hf hx hl hk
    obtain ⟨hk32, fa, fb⟩ := hf
    obtain ⟨a1, a2⟩ := kid_top hk32 hx (bit := 0) (by omega)
    obtain ⟨b1, b2⟩ := kid_top hk32 hx (bit := 1) (by omega)
    have la := kid_lt hk32 hx (bit := 0) (by omega) hl
    have lb := kid_lt hk32 hx (bit := 1) (by omega) hl
    rw [pop_at hwi.1 ha hk, choose, Tr.at]
    generalize hS : joinL t1.set t2.set = S
    obtain ⟨wa, na⟩ := choose_wi t1 (kidA x k 0) (k + 1) (pick S v) fa a1 la (by omega)
    obtain ⟨wb, nb⟩ := choose_wi t2 (kidA x k 1) (k + 1) (pick S v) fb b1 lb (by omega)
    have ia := choose_at t1 (kidA x k 0) (k + 1) (pick S v) fa a1 la (by omega) a
    have ib := choose_at t2 (kidA x k 1) (k + 1) (pick S v) fb b1 lb (by omega) a
    generalize choose t1 (kidA x k 0) (k + 1) (pick S v) = A at *
    generalize choose t2 (kidA x k 1) (k + 1) (pick S v) = B at *
    have hne : ∀ e ∈ A ++ B, e.p ≠ ⟨x, k⟩ := fun e he q => by
      have : ((k + 1 : Nat) : Int) ≤ e.p.n := (List.mem_append.1 he).elim (fun h => (wa.ok e h).2.2) (fun h => (wb.ok e h).2.2)
      rw [q] at this
      simp only at this; omega
    have hpop : popL x k (choose1 S x k v ++ (A ++ B)) = A ++ B ∧ popV x k v (choose1 S x k v ++ (A ++ B)) = pick S v := by
      unfold choose1 pick
      split
      · rw [List.nil_append]
        cases hAB : A ++ B with
        | nil => exact ⟨rfl, rfl⟩
        | cons e r =>
          have := hne e (by rw [hAB]; exact List.mem_cons_self ..)
          rw [popL, popV, if_neg this, if_neg this]; exact ⟨rfl, rfl⟩
      · rw [List.singleton_append, popL, popV, if_pos rfl, if_pos rfl]; exact ⟨rfl, rfl⟩
    rw [hpop.1, hpop.2]
    have hlen : ∀ e ∈ A ++ B, ((k + 1 : Nat) : Int) ≤ e.p.n := fun e he => (List.mem_append.1 he).elim (fun h => (wa.ok e h).2.2) (fun h => (wb.ok e h).2.2)
    have hall : ∀ (M : List En) (q : En → Bool), (∀ e ∈ M, q e = true) → M.filter q = M := fun M q h => List.filter_eq_self.2 h
    have hnone : ∀ (M : List En) (q : En → Bool), (∀ e ∈ M, q e = false) → M.filter q = [] := fun M q h => List.filter_eq_nil_iff.2 fun e he => by rw [h e he]; decide
    obtain ⟨k0, k1⟩ := kid_of hk32 ha
    have uA : ∀ e ∈ A, top e.p.a (k + 1) = kidA x k 0 ∧ ((k + 1 : Nat) : Int) ≤ e.p.n := fun e he => (wa.ok e he).2
    have uB : ∀ e ∈ B, top e.p.a (k + 1) = kidA x k 1 ∧ ((k + 1 : Nat) : Int) ≤ e.p.n := fun e he => (wb.ok e he).2
    split
    · rename_i hb
      rw [half_at hlen (k0 hb), halfL, List.filter_append, hall A (underB (kidA x k 0) (k + 1)) (fun e he => by rw [underB, (uA e he).1, decide_eq_true rfl, decide_eq_true (uA e he).2]; rfl), hnone B (underB (kidA x k 0) (k + 1)) (fun e he => by rw [underB, (uB e he).1, decide_eq_false (Ne.symm kid_ne)]; rfl), List.append_nil]
      exact ia (k0 hb)
    · rename_i hb
      rw [half_at hlen (k1 hb), halfL, List.filter_append, hnone A (underB (kidA x k 1) (k + 1)) (fun e he => by rw [underB, (uA e he).1, decide_eq_false kid_ne]; rfl), hall B (underB (kidA x k 1) (k + 1)) (fun e he => by rw [underB, (uB e he).1, decide_eq_true rfl, decide_eq_true (uB e he).2]; rfl), List.nil_append]
      exact ib (k1 hb)
/-- No list with these lookups is shorter. -/
theorem lower : ∀ (t : Tr) (x k : Nat) (O : List En) (v : Int), t.fits k → top x k = x → x < 4294967296 → k ≤ 32 → Wi x k O → (∀ a, a < 4294967296 → top a k = x → lkD O v a = t.at k a) → t.cost + out1 t.set v ≤ O.length
  | .leaf u, x, k, O, v, _, hx, hl, hk, hw, ha => by
    rw [Tr.cost, Tr.set, Nat.zero_add]
    cases O with
    | nil =>
      have := ha x hl hx
      rw [Tr.at] at this
      have hv : v = u := this
      rw [out1, if_pos (List.mem_singleton.2 hv)]; exact Nat.zero_le _
    | cons e r => have := out1_le [u] v; simp; omega
  | .node t1 t2, x, k, O, v, hf, hx, hl, hk, hw, ha => by
    obtain ⟨hk32, fa, fb⟩ := hf
    obtain ⟨a1, a2⟩ := kid_top hk32 hx (bit := 0) (by omega)
    obtain ⟨b1, b2⟩ := kid_top hk32 hx (bit := 1) (by omega)
    have la := kid_lt hk32 hx (bit := 0) (by omega) hl
    have lb := kid_lt hk32 hx (bit := 1) (by omega) hl
    have hpw := pop_wi hw
    have hpm := pop_mem hw
    have hv' : ∀ e ∈ popL x k O, e.p.valid = true := fun e he => (hpw.ok e he).1
    have la' := lower t1 (kidA x k 0) (k + 1) (halfL x k 0 (popL x k O)) (popV x k v O) fa a1 la (by omega) (half_wi hpw.srt hv') fun a h32 hta => by
      have htop : top a k = x := by rw [← top_top a (j := k) (k := k + 1) (by omega) (by omega), hta, a2]
      have h := ha a h32 htop
      rw [pop_at hw htop hk, half_at (fun e he => (hpm e he).2) hta, Tr.at, if_pos (bit_of hk32 hta hx (by omega))] at h
      exact h
    have lb' := lower t2 (kidA x k 1) (k + 1) (halfL x k 1 (popL x k O)) (popV x k v O) fb b1 lb (by omega) (half_wi hpw.srt hv') fun a h32 hta => by
      have htop : top a k = x := by rw [← top_top a (j := k) (k := k + 1) (by omega) (by omega), hta, b2]
      have h := ha a h32 htop
      rw [pop_at hw htop hk, half_at (fun e he => (hpm e he).2) hta, Tr.at, if_neg (by rw [bit_of hk32 hta hx (by omega)]; decide)] at h
      exact h
    have hlen := half_len hk32 (l := popL x k O) fun e he => ⟨(hpw.ok e he).2.1, (hpm e he).2⟩
    have hj := join_le (A := t1.set) (B := t2.set) (popV x k v O)
    have hO : (popL x k O).length + (out1 (joinL t1.set t2.set) v - out1 (joinL t1.set t2.set) (popV x k v O)) ≤ O.length := by
      cases O with
      | nil => rw [popV]; simp [popL]
      | cons e r =>
        rw [popL, popV]
        have := out1_le (joinL t1.set t2.set) v
        split
        · rw [List.length_cons]; omega
        · simp
    rw [Tr.cost, Tr.set]
    omega
/-- What Minimal returns for a table. -/
def minL (L : List En) : List En := choose (grow 32 0 0 L (-1)) 0 0 (-1)
theorem Tb.wi {L : List En} (h : Tb L) (ha : ∀ e ∈ L, e.p.a < 4294967296) : Wi 0 0 L :=
  ⟨fun e he => ⟨(h.ok e he).1, top_zero _ (ha e he), by obtain ⟨v1, _⟩ := Pf.valid_iff.1 (h.ok e he).1; omega⟩, h.srt⟩
theorem min_lk {L : List En} (h : Tb L) (ha : ∀ e ∈ L, e.p.a < 4294967296) {a : Nat} (h32 : a < 4294967296) : lk (minL L) a = lk L a := by
  have ht := top_zero a h32
  rw [← lkD_lk, ← lkD_lk, minL, choose_at _ 0 0 (-1) (grow_fits 32 0 0 L (-1) rfl) (by decide) (by decide) (by decide) a ht, grow_at 32 0 0 L (-1) rfl (h.wi ha) a ht]
/-- Minimal is the shortest of all tables with its lookups. -/
theorem min_le {L O : List En} (h : Tb L) (ha : ∀ e ∈ L, e.p.a < 4294967296) (hO : Tb O) (hOa : ∀ e ∈ O, e.p.a < 4294967296) (hs : ∀ a, a < 4294967296 → lk O a = lk L a) : (minL L).length ≤ O.length := by
  rw [minL, choose_len]
  refine lower _ 0 0 O (-1) (grow_fits 32 0 0 L (-1) rfl) (by decide) (by decide) (by decide) (hO.wi hOa) fun a h32 ht => ?_
  rw [grow_at 32 0 0 L (-1) rfl (h.wi ha) a ht]
  exact hs a h32
/-! ### The values of the tree are the table's -/
theorem half_sub {x k bit : Nat} {l : List En} {e : En} (h : e ∈ halfL x k bit l) : e ∈ l := (List.mem_filter.1 h).1
theorem pop_sub {x k : Nat} {l : List En} {e : En} (h : e ∈ popL x k l) : e ∈ l := by
  cases l with
  | nil => cases h
  | cons d r =>
    rw [popL] at h
    split at h
    · exact List.mem_cons_of_mem _ h
    · exact h
theorem popV_in (x k : Nat) (v : Int) (l : List En) : popV x k v l = v ∨ ∃ e ∈ l, popV x k v l = e.v := by
  cases l with
  | nil => exact .inl rfl
  | cons d r =>
    rw [popV]
    split
    · exact .inr ⟨d, List.mem_cons_self .., rfl⟩
    · exact .inl rfl
theorem choose1_val {S : List Int} (hS : S ≠ []) {x k : Nat} {v : Int} {e : En} (he : e ∈ choose1 S x k v) : e.v ∈ S := by
  rw [choose1_mem he]; exact least_mem hS
def Tr.vals : Tr → List Int
  | .leaf v => [v]
  | .node a b => a.vals ++ b.vals
theorem Tr.set_vals : ∀ (t : Tr) (y : Int), y ∈ t.set → y ∈ t.vals
  | .leaf v, y, h => h
  | .node a b, y, h => by
    rw [Tr.set, join_mem] at h
    rw [Tr.vals, List.mem_append]
    split at h
    · exact h.imp (a.set_vals y) (b.set_vals y)
    · exact .inl (a.set_vals y h.1)
theorem choose_vals : ∀ (t : Tr) (x k : Nat) (v : Int), ∀ e ∈ choose t x k v, e.v ∈ t.vals
  | .leaf u, x, k, v, e, he => choose1_val (S := [u]) (fun h => nomatch h) he
  | .node a b, x, k, v, e, he => by
    rw [choose] at he
    rcases List.mem_append.1 he with he | he
    · exact Tr.set_vals (.node a b) _ (choose1_val (join_ne a.set_ne) he)
    · rw [Tr.vals, List.mem_append]
      rcases List.mem_append.1 he with he | he
      · exact .inl (choose_vals a _ _ _ e he)
      · exact .inr (choose_vals b _ _ _ e he)
theorem grow_vals : ∀ (f x k : Nat) (l : List En) (v : Int), ∀ y ∈ (grow f x k l v).vals, y = v ∨ ∃ e ∈ l, y = e.v
  | 0, x, k, l, v, y, hy => by
    rw [grow, Tr.vals, List.mem_singleton] at hy
    rw [hy]; exact popV_in x k v l
  | f + 1, x, k, l, v, y, hy => by
    rw [grow] at hy
    split at hy
    · rw [Tr.vals, List.mem_singleton] at hy
      rw [hy]; exact popV_in x k v l
    · rw [Tr.vals, List.mem_append] at hy
      have fin : ∀ bit, (y = popV x k v l ∨ ∃ e ∈ halfL x k bit (popL x k l), y = e.v) → y = v ∨ ∃ e ∈ l, y = e.v := fun bit h => by
        rcases h with h | ⟨e, he, h⟩
        · rw [h]; exact popV_in x k v l
        · exact .inr ⟨e, pop_sub (half_sub he), h⟩
      rcases hy with h | h
      · exact fin 0 (grow_vals f _ _ _ _ y h)
      · exact fin 1 (grow_vals f _ _ _ _ y h)
theorem min_tb {L : List En} (h : Tb L) (ha : ∀ e ∈ L, e.p.a < 4294967296) : Tb (minL L) ∧ (∀ e ∈ minL L, e.p.a < 4294967296) ∧ (minL L).length ≤ L.length := by
  obtain ⟨hw, h32⟩ := choose_wi (grow 32 0 0 L (-1)) 0 0 (-1) (grow_fits 32 0 0 L (-1) rfl) (by decide) (by decide) (by decide)
  refine ⟨⟨fun e he => ⟨(hw.ok e he).1, ?_⟩, hw.srt⟩, h32, min_le h ha h ha fun _ _ => rfl⟩
  rcases grow_vals 32 0 0 L (-1) _ (choose_vals _ 0 0 (-1) e he) with h1 | ⟨d, hd, h1⟩
  · omega
  · have := (h.ok d hd).2; omega
end Go.Proofs.Ytjpnaofoeeegeaa


/-
  Rules of the walk for maps of one's own with integer keys that are ranged over: making, looking up, setting, len, range, next, entry.
  No conditions beyond those that each rule states.
-/
namespace Go.Proofs.Ytjpnaofoeeegeaa
open Go.RowKit Go.MapKept
open Go.ChangeMaps (setBlock)

/-- What block b's entries are: F is what the map has for each key. -/
structure EntJ (es : Array MapEntry) (clock : Nat) (k : IntKind) (F : Int → Option Value) : Prop where
  keys : ∀ x ∈ es.toList, IsKey (.int k) x.key
  apart : es.toList.Pairwise (fun x y => x.key ≠ y.key)
  has : ∀ y v, F y = some v ↔ ∃ e ∈ es.toList, e.key = .int k y ∧ e.val = v
  old : ∀ x ∈ es.toList, x.born < clock
  born : (es.toList.map (·.born)).Nodup
def MapJ (w : World) (b : Nat) (k : IntKind) (F : Int → Option Value) : Prop := ∃ es clock, w.heap[b]? = some (.map es clock) ∧ EntJ es clock k F
section
variable {w w' w1 : World} {b r : Nat} {k : IntKind} {F : Int → Option Value} {row : Option Nat} {S : Nat → Prop}
theorem MapJ.toI (h : MapJ w b k F) : MapI w b k F := by
  obtain ⟨es, clock, hb, hE⟩ := h
  exact ⟨es, clock, hb, hE.keys, hE.apart, hE.has⟩
theorem MapJ.lt (h : MapJ w b k F) : b < w.heap.size := h.toI.lt
theorem MapJ.same (h : MapJ w b k F) (he : w'.heap[b]? = w.heap[b]?) : MapJ w' b k F := by
  obtain ⟨es, clock, hb, hE⟩ := h
  exact ⟨es, clock, he.trans hb, hE⟩
theorem MapJ.ext (h : MapJ w b k F) (he : Ext w w') : MapJ w' b k F := h.same (he.block b h.lt)
theorem MapJ.grow (h : MapJ w b k F) (hg : w.grownBy w1 row) (hne : some b ≠ row) : MapJ w1 b k F := h.same (hg.block b h.lt hne)
/-- A key that no entry bears is laid in. -/
theorem EntJ.push {es : Array MapEntry} {clock : Nat} (h : EntJ es clock k F) {y : Int} {v : Value} (hno : ∀ x ∈ es.toList, x.key ≠ .int k y) : EntJ (es.push { key := .int k y, val := v, born := clock }) (clock + 1) k (fun y' => if y' = y then some v else F y') := by
  refine ⟨?_, ?_, ?_, ?_, ?_⟩
  · intro x hx
    simp only [Array.toList_push, List.mem_append, List.mem_singleton] at hx
    rcases hx with hx | rfl
    · exact h.keys x hx
    · exact rfl
  · rw [Array.toList_push, List.pairwise_append]
    exact ⟨h.apart, List.pairwise_singleton _ _, fun x hx z hz => by rw [List.mem_singleton.1 hz]; exact hno x hx⟩
  · intro y' v'
    simp only [Array.toList_push, List.mem_append, List.mem_singleton]
    by_cases e : y' = y
    · subst e
      simp only [if_true, Option.some.injEq]
      constructor
      · rintro rfl; exact ⟨_, .inr rfl, rfl, rfl⟩
      · rintro ⟨x, hx | rfl, q1, q2⟩
        · exact absurd q1 (hno x hx)
        · exact q2
    · simp only [e, if_false]
      rw [h.has]
      constructor
      · rintro ⟨x, hx, q⟩; exact ⟨x, .inl hx, q⟩
      · rintro ⟨x, hx | rfl, q1, q2⟩
        · exact ⟨x, hx, q1, q2⟩
        · simp only [Value.int.injEq, true_and] at q1; exact absurd q1.symm e
  · intro x hx
    simp only [Array.toList_push, List.mem_append, List.mem_singleton] at hx
    rcases hx with hx | rfl
    · exact Nat.lt_succ_of_lt (h.old x hx)
    · exact Nat.lt_succ_self _
  · rw [Array.toList_push, List.map_append, List.nodup_append]
    refine ⟨h.born, by simp, fun a ha b hb e => ?_⟩
    simp only [List.map_cons, List.map_nil, List.mem_singleton] at hb
    obtain ⟨x, hx, rfl⟩ := List.mem_map.1 ha
    have := h.old x hx
    omega
/-- The entry that bears the key gets another value. -/
theorem EntJ.modify {es : Array MapEntry} {clock : Nat} (h : EntJ es clock k F) {y : Int} {v : Value} {j : Nat} {e : MapEntry} (hj : es[j]? = some e) (hk : e.key = .int k y) : EntJ (es.modify j fun e => { e with key := .int k y, val := v }) clock k (fun y' => if y' = y then some v else F y') := by
  have hkey : ∀ e', es[j]? = some e' → ({ e' with key := .int k y, val := v } : MapEntry).key = e'.key := fun e' he' => by rw [hj] at he'; cases he'; exact hk.symm
  have hkeys := modify_keys (es := es) j (fun e => { e with key := .int k y, val := v }) hkey
  have hget : ∀ i, (es.modify j fun e => { e with key := .int k y, val := v })[i]? = if j = i then (es[i]?).map (fun e => { e with key := .int k y, val := v }) else es[i]? := fun i => by rw [Array.getElem?_modify]
  have mem : ∀ x, x ∈ (es.modify j fun e => { e with key := .int k y, val := v }).toList ↔ ∃ i, (if j = i then (es[i]?).map (fun e => { e with key := .int k y, val := v }) else es[i]?) = some x := fun x => by
    rw [List.mem_iff_getElem?]
    constructor
    · rintro ⟨i, hi⟩; exact ⟨i, by rw [← hget, ← Array.getElem?_toList]; exact hi⟩
    · rintro ⟨i, hi⟩; exact ⟨i, by rw [← hget, ← Array.getElem?_toList] at hi; exact hi⟩
  have hborn : (es.modify j fun e => { e with key := .int k y, val := v }).toList.map (·.born) = es.toList.map (·.born) := by
    refine List.ext_getElem? fun i => ?_
    rw [List.getElem?_map, List.getElem?_map, Array.getElem?_toList, Array.getElem?_toList, hget]
    split
    · cases es[i]? <;> rfl
    · rfl
  have uniq : ∀ x, x ∈ es.toList → x.key = .int k y → ∀ i, es[i]? = some x → i = j := fun x _ hxk i hi => by
    have hpw := h.apart
    rcases Nat.lt_trichotomy i j with q | q | q
    · have h5 := List.pairwise_iff_getElem.1 hpw i j (by have := (Array.getElem?_eq_some_iff.1 hi).1; simpa using this) (by have := (Array.getElem?_eq_some_iff.1 hj).1; simpa using this) q
      obtain ⟨p1, p2⟩ := Array.getElem?_eq_some_iff.1 hi
      obtain ⟨p3, p4⟩ := Array.getElem?_eq_some_iff.1 hj
      simp only [Array.getElem_toList] at h5
      rw [p2, p4, hxk, hk] at h5; exact absurd rfl h5
    · exact q
    · have h5 := List.pairwise_iff_getElem.1 hpw j i (by have := (Array.getElem?_eq_some_iff.1 hj).1; simpa using this) (by have := (Array.getElem?_eq_some_iff.1 hi).1; simpa using this) q
      obtain ⟨p1, p2⟩ := Array.getElem?_eq_some_iff.1 hi
      obtain ⟨p3, p4⟩ := Array.getElem?_eq_some_iff.1 hj
      simp only [Array.getElem_toList] at h5
      rw [p2, p4, hxk, hk] at h5; exact absurd rfl h5
  refine ⟨isKey_modify h.keys _ _ hkey, ?_, ?_, ?_, by rw [hborn]; exact h.born⟩
  · have := List.pairwise_map (f := (·.key)) (R := fun a b => a ≠ b) (l := (es.modify j fun e => { e with key := .int k y, val := v }).toList)
    rw [hkeys] at this
    exact this.1 (List.pairwise_map.2 h.apart)
  · intro y' v'
    by_cases e9 : y' = y
    · subst e9
      simp only [if_true, Option.some.injEq]
      constructor
      · rintro rfl
        exact ⟨{ e with key := .int k y', val := v }, (mem _).2 ⟨j, by rw [if_pos rfl, hj]; rfl⟩, rfl, rfl⟩
      · rintro ⟨x, hx, q1, q2⟩
        obtain ⟨i, hi⟩ := (mem x).1 hx
        by_cases e8 : j = i
        · subst e8
          rw [if_pos rfl, hj] at hi
          simp only [Option.map_some, Option.some.injEq] at hi
          subst hi; exact q2
        · rw [if_neg e8] at hi
          exact absurd (uniq x (List.mem_iff_getElem?.2 ⟨i, by simpa using hi⟩) q1 i hi).symm e8
    · simp only [e9, if_false]
      rw [h.has]
      constructor
      · rintro ⟨x, hx, q1, q2⟩
        obtain ⟨i, hi⟩ := List.mem_iff_getElem?.1 hx
        refine ⟨x, (mem x).2 ⟨i, ?_⟩, q1, q2⟩
        have hi' : es[i]? = some x := by simpa using hi
        rw [if_neg (fun e8 => by
          subst e8
          rw [hj] at hi'; cases hi'
          rw [hk] at q1
          simp only [Value.int.injEq, true_and] at q1
          exact e9 q1.symm)]
        exact hi'
      · rintro ⟨x, hx, q1, q2⟩
        obtain ⟨i, hi⟩ := (mem x).1 hx
        by_cases e8 : j = i
        · subst e8
          rw [if_pos rfl, hj] at hi
          simp only [Option.map_some, Option.some.injEq] at hi
          subst hi
          simp only [Value.int.injEq, true_and] at q1
          exact absurd q1.symm e9
        · rw [if_neg e8] at hi
          exact ⟨x, List.mem_iff_getElem?.2 ⟨i, by simpa using hi⟩, q1, q2⟩
  · intro x hx
    have : x.born ∈ (es.modify j fun e => { e with key := .int k y, val := v }).toList.map (·.born) := List.mem_map.2 ⟨x, hx, rfl⟩
    rw [hborn] at this
    obtain ⟨z, hz, e⟩ := List.mem_map.1 this
    rw [← e]; exact h.old z hz
theorem MapJ.update {P : Program} {t kt et : TypeId} [ht : TMap P t kt et] [hk : TInt P kt k] (hM : MapJ w b k F) (y : Int) (v : Value) :
    ∃ w1, (Instr.mapUpdate t (.map (some b)) (.int k y) v).run P w = .ok () w1 ∧ w.grownBy w1 (some b) ∧ MapJ w1 b k (fun y' => if y' = y then some v else F y') := by
  obtain ⟨es, clock, hb, hE⟩ := hM
  have hck := MapKept.run_checkKey (P := P) (w := w) (k := .int k y) hk.h rfl false 9999
  have grow : ∀ o, w.grownBy { w with heap := w.heap.setIfInBounds b o } (some b) := fun o => ⟨rfl, rfl, rfl, by simp, fun k hk hne => by
    have : b ≠ k := fun e => hne (by rw [e])
    simp [this]⟩
  have heap : ∀ o, (w.heap.setIfInBounds b o)[b]? = some o := fun o => (heap_set hb).1
  rcases findNow_spec (d := .int k) (k := .int k y) rfl es.toList 0 hE.keys with ⟨h1, h2⟩ | ⟨j, e, h1, h2, h3⟩
  · refine ⟨{ w with heap := w.heap.setIfInBounds b (.map (es.push { key := .int k y, val := v, born := clock }) (clock + 1)) }, ?_, grow _, _, _, heap _, hE.push h2⟩
    simp [Instr.mapUpdate, run_underlying ht.h, MapKept.run_getObj_map hb, hck, MapKept.run_findKey hk.h h1, MapKept.run_setObj_map _ hb]
  · have hj : es[j]? = some e := by simpa using h2
    refine ⟨{ w with heap := w.heap.setIfInBounds b (.map (es.modify j fun e => { e with key := .int k y, val := v }) clock) }, ?_, grow _, _, _, heap _, hE.modify hj h3⟩
    simp [Instr.mapUpdate, run_underlying ht.h, MapKept.run_getObj_map hb, hck, MapKept.run_findKey hk.h h1, hj, h3, run_keyThatStays (d := .int k) (k := .int k y) rfl, MapKept.run_setObj_map _ hb]

/-! ### Iterators -/
/-- Block r is an iterator over the map of block b; T: the keys that have come; cnt: how many entries are still to come. -/
def IterJ (w : World) (b r : Nat) (k : IntKind) (F : Int → Option Value) (T : List Int) (cnt : Nat) : Prop :=
  ∃ (es : Array MapEntry) (clock since : Nat) (seen : Array Nat) (c0 : Nat), w.heap[b]? = some (.map es clock) ∧ EntJ es clock k F ∧ w.heap[r]? = some (.mapIter (some b) since seen c0) ∧ (∀ x ∈ es.toList, x.born < since) ∧ since ≤ c0 ∧ since ≤ clock ∧ (leftOf es seen).size = cnt ∧
    ∀ x ∈ es.toList, ∀ y, x.key = .int k y → (y ∈ T ↔ seen.contains x.born = true)
/-- What the last step has handed out. -/
def EntryAt (w : World) (b r : Nat) (k : IntKind) (y : Int) (v : Value) : Prop :=
  ∃ (es : Array MapEntry) (clock since : Nat) (seen : Array Nat) (e : MapEntry), w.heap[r]? = some (.mapIter (some b) since (seen.push e.born) clock) ∧ w.heap[b]? = some (.map es clock) ∧ e ∈ es.toList ∧ (es.toList.map (·.born)).Nodup ∧ e.key = .int k y ∧ e.val = v
theorem lt_of_heap {o : Obj} (h : w.heap[b]? = some o) : b < w.heap.size := (Array.getElem?_eq_some_iff.1 h).1
theorem IterJ.map {T : List Int} {cnt : Nat} (h : IterJ w b r k F T cnt) : MapJ w b k F := by
  obtain ⟨es, clock, _, _, _, hb, hE, _⟩ := h
  exact ⟨es, clock, hb, hE⟩
theorem IterJ.ne {T : List Int} {cnt : Nat} (h : IterJ w b r k F T cnt) : r ≠ b := by
  obtain ⟨es, clock, _, _, _, hb, _, hr, _⟩ := h
  intro e
  rw [e, hb] at hr; cases hr
theorem IterJ.rlt {T : List Int} {cnt : Nat} (h : IterJ w b r k F T cnt) : r < w.heap.size := by
  obtain ⟨es, clock, _, _, _, hb, _, hr, _⟩ := h
  exact lt_of_heap hr
theorem IterJ.same {T : List Int} {cnt : Nat} (h : IterJ w b r k F T cnt) (h1 : w'.heap[b]? = w.heap[b]?) (h2 : w'.heap[r]? = w.heap[r]?) : IterJ w' b r k F T cnt := by
  obtain ⟨es, clock, since, seen, c0, hb, hE, hr, rest⟩ := h
  exact ⟨es, clock, since, seen, c0, h1.trans hb, hE, h2.trans hr, rest⟩
theorem IterJ.ext {T : List Int} {cnt : Nat} (h : IterJ w b r k F T cnt) (he : Ext w w') : IterJ w' b r k F T cnt := h.same (he.block b h.map.lt) (he.block r h.rlt)
theorem IterJ.grow {T : List Int} {cnt : Nat} (h : IterJ w b r k F T cnt) (hg : w.grownBy w1 row) (h1 : some b ≠ row) (h2 : some r ≠ row) : IterJ w1 b r k F T cnt := h.same (hg.block b h.map.lt h1) (hg.block r h.rlt h2)
theorem EntryAt.ext {y : Int} {v : Value} (h : EntryAt w b r k y v) (he : Ext w w') : EntryAt w' b r k y v := by
  obtain ⟨es, clock, since, seen, e, hr, hb, rest⟩ := h
  exact ⟨es, clock, since, seen, e, (he.block r (lt_of_heap hr)).trans hr, (he.block b (lt_of_heap hb)).trans hb, rest⟩
theorem born_key {es : Array MapEntry} (hn : (es.toList.map (·.born)).Nodup) {x e : MapEntry} (hx : x ∈ es.toList) (he : e ∈ es.toList) (h : x.born = e.born) : x = e := by
  have h1 := find_born x es.toList hn hx
  have h2 := find_born e es.toList hn he
  rw [h] at h1
  rw [h1] at h2
  exact Option.some.inj h2
/-- The step. -/
theorem IterJ.next {P : Program} {T : List Int} {cnt : Nat} (h : IterJ w b r k F T cnt) (ty : TypeId) :
    ((∀ y v, F y = some v → y ∈ T) ∧ (Instr.next (.pointer (some ⟨r, 0, none⟩)) false ty).run P w = .ok (.tuple #[.bool false]) w) ∨
    ∃ y v w1 cnt', F y = some v ∧ y ∉ T ∧ (Instr.next (.pointer (some ⟨r, 0, none⟩)) false ty).run P w = .ok (.tuple #[.bool true, .int k y, v]) w1 ∧ IterJ w1 b r k F (T ++ [y]) cnt' ∧ cnt' < cnt ∧ w.grownBy w1 (some r) ∧ EntryAt w1 b r k y v := by
  have hne := h.ne
  obtain ⟨es, clock, since, seen, c0, hb, hE, hr, hold, hsc, hsk, hcnt, hT⟩ := h
  rcases run_next_at (P := P) w ty r b since c0 seen es clock hr hb hold hsc with ⟨h0, hrun⟩ | ⟨e, he, w1, hal, hrun⟩
  · refine .inl ⟨fun y v hy => ?_, hrun⟩
    obtain ⟨x, hx, hk, _⟩ := (hE.has y v).1 hy
    refine (hT x hx y hk).2 ?_
    cases hc : seen.contains x.born with
    | true => rfl
    | false =>
      have : x ∈ leftOf es seen := Array.mem_filter.2 ⟨by simpa using hx, by rw [hc]; rfl⟩
      have h1 := Array.size_pos_of_mem this
      omega
  · obtain ⟨hem, hes⟩ := mem_left he
    obtain ⟨y, hy⟩ : ∃ y, e.key = .int k y := by
      have := hE.keys e hem
      cases hk : e.key <;> rw [hk] at this <;> simp [IsKey] at this
      subst this
      exact ⟨_, rfl⟩
    have hr1 : w1.heap[r]? = some (.mapIter (some b) since seen c0) := by rcases hal with rfl | rfl <;> exact hr
    have hb1 : w1.heap[b]? = some (.map es clock) := by rcases hal with rfl | rfl <;> exact hb
    have hset := heap_set (o' := .mapIter (some b) since (seen.push e.born) clock) hr1
    have hb' : (setBlock w1 r (.mapIter (some b) since (seen.push e.born) clock)).heap[b]? = some (.map es clock) := (hset.2 b (fun e1 => hne e1.symm)).trans hb1
    refine .inr ⟨y, e.val, _, _, (hE.has y e.val).2 ⟨e, hem, hy, rfl⟩, fun hyT => ?_, by rw [← hy]; exact hrun, ⟨es, clock, since, seen.push e.born, clock, hb', hE, hset.1, hold, hsk, hsk, rfl, fun x hx z hz => ?_⟩, by rw [← hcnt]; exact left_shrinks es seen e he, ?_, ⟨es, clock, since, seen, e, hset.1, hb', hem, hE.born, hy, rfl⟩⟩
    · rw [(hT e hem y hy).1 hyT] at hes; cases hes
    · rw [List.mem_append, hT x hx z hz, contains_push, Bool.or_eq_true, beq_iff_eq, List.mem_singleton]
      refine or_congr Iff.rfl ⟨fun h1 => ?_, fun h1 => ?_⟩
      · subst h1
        have : x = e := by
          refine Classical.byContradiction fun hxe => ?_
          obtain ⟨i, hi, h2⟩ := List.mem_iff_getElem.1 hx
          obtain ⟨j, hj, h3⟩ := List.mem_iff_getElem.1 hem
          rcases Nat.lt_trichotomy i j with q | q | q
          · have := List.pairwise_iff_getElem.1 hE.apart i j hi hj q
            rw [h2, h3, hz, hy] at this; exact this rfl
          · subst q; rw [h2] at h3; exact hxe h3
          · have := List.pairwise_iff_getElem.1 hE.apart j i hj hi q
            rw [h2, h3, hz, hy] at this; exact this rfl
        rw [this]
      · have := born_key hE.born hx hem h1
        rw [this, hy] at hz
        simp only [Value.int.injEq, true_and] at hz
        exact hz.symm
    · rcases hal with rfl | rfl <;> exact ⟨rfl, rfl, rfl, by simp [setBlock], fun i _ hi => hset.2 i (fun e1 => hi (by rw [e1]))⟩
end

/-! ### At the operations -/
section
variable {P : Program} {N : Fr} {ops : Array Oper} {K : Env → World → Prop} {m : Env} {w : World} {rest : List Oper} {ty : TypeId} {pos : String} {after : Array Edge} {g : Option (Nat × Bool)} {b r : Nat} {k : IntKind} {F : Int → Option Value}
theorem grow_back {w w' w1 : World} {row : Option Nat} (hw : Ext w w') (h : w'.grownBy w1 row) : w.grownBy w1 row := grow_ext hw h
theorem Ops_makeMapJ {dst : Nat} {t kt et : TypeId} [TMap P t kt et] [TInt P kt k] (hon : On N ops m ⟨some dst, .makeMap t none, ty, pos, after, g⟩) (hd : Nat.ble (dst + 1) N.n = true)
    (h : ∀ w1 b, Ext w w1 → w.heap.size ≤ b → MapJ w1 b k (fun _ => none) → Ops P N ops false K rest ((dst, .map (some b)) :: m) w1) : Ops P N ops false K (⟨some dst, .makeMap t none, ty, pos, after, g⟩ :: rest) m w := by
  refine ⟨fun a w' ha hw => ?_⟩
  unfold wpList
  rw [if_pos (hon.out a ha)]
  refine .inl ?_
  have hr : (execOp a.eval ⟨some dst, .makeMap t none, ty, pos, after, g⟩).run P w' = .ok (.value (.map (some w'.heap.size))) (w'.alloc (.map #[] 0)) := by
    simp only [execOp, Option.map_none, Sem.run_bind, run_makeMap, Result.andThen_ok]
    first | rfl | simp [run_makeMap]
  unfold Oper.wp
  rw [hr]
  exact (h _ _ (hw.alloc _) hw.size ⟨#[], 0, alloc_heap _ _, by simp, by simp, by simp, by simp, by simp⟩).out _ _ (ha.put (Nat.le_of_ble_eq_true hd) _) (Ext.refl _)
theorem Ops_updateJ {t kt et : TypeId} {x i u : Operand} {y : Int} {v : Value} [ht : TMap P t kt et] [hk : TInt P kt k] (hon : On N ops m ⟨none, .mapUpdate t x i u, ty, pos, after, g⟩)
    (hx : ev m x = some (.map (some b))) (hi : ev m i = some (.int k y)) (hu : ev m u = some v) (hM : MapJ w b k F)
    (h : ∀ w1, w.grownBy w1 (some b) → MapJ w1 b k (fun y' => if y' = y then some v else F y') → Ops P N ops false K rest m w1) : Ops P N ops false K (⟨none, .mapUpdate t x i u, ty, pos, after, g⟩ :: rest) m w := by
  refine ⟨fun a w' ha hw => ?_⟩
  unfold wpList
  rw [if_pos (hon.out a ha)]
  refine .inl ?_
  obtain ⟨w1, hrun, hg, hM1⟩ := (hM.ext hw).update (P := P) (t := t) (kt := kt) (et := et) y v
  have hr : (execOp a.eval ⟨none, .mapUpdate t x i u, ty, pos, after, g⟩).run P w' = .ok .skip w1 := by
    simp [execOp, ha.ev hx, ha.ev hi, ha.ev hu, hrun]
  unfold Oper.wp
  rw [hr]
  exact (h _ (grow_back hw hg) hM1).out _ _ (ha.put_none _) (Ext.refl _)
theorem Ops_insertJ {t kt et : TypeId} {x i u : Operand} {y : Int} {v : Value} [ht : TMap P t kt et] [hk : TInt P kt k] (hon : On N ops m ⟨none, .insert t x i u, ty, pos, after, g⟩)
    (hx : ev m x = some (.map (some b))) (hi : ev m i = some (.int k y)) (hu : ev m u = some v) (hM : MapJ w b k F)
    (h : ∀ w1, w.grownBy w1 (some b) → MapJ w1 b k (fun y' => if y' = y then some v else F y') → Ops P N ops false K rest m w1) : Ops P N ops false K (⟨none, .insert t x i u, ty, pos, after, g⟩ :: rest) m w := by
  refine ⟨fun a w' ha hw => ?_⟩
  unfold wpList
  rw [if_pos (hon.out a ha)]
  refine .inl ?_
  obtain ⟨w1, hrun, hg, hM1⟩ := (hM.ext hw).update (P := P) (t := t) (kt := kt) (et := et) y v
  have hr : (execOp a.eval ⟨none, .insert t x i u, ty, pos, after, g⟩).run P w' = .ok .skip w1 := by
    simp [execOp, ha.ev hx, ha.ev hi, ha.ev hu, hrun]
  unfold Oper.wp
  rw [hr]
  exact (h _ (grow_back hw hg) hM1).out _ _ (ha.put_none _) (Ext.refl _)
theorem Ops_rangeJ {dst : Nat} {t kt et : TypeId} {x : Operand} [ht : TMap P t kt et] (hon : On N ops m ⟨some dst, .range t x, ty, pos, after, g⟩) (hd : Nat.ble (dst + 1) N.n = true)
    (hx : ev m x = some (.map (some b))) (hM : MapJ w b k F)
    (h : ∀ w1 r cnt, Ext w w1 → w.heap.size ≤ r → IterJ w1 b r k F [] cnt → Ops P N ops false K rest ((dst, .pointer (some ⟨r, 0, none⟩)) :: m) w1) : Ops P N ops false K (⟨some dst, .range t x, ty, pos, after, g⟩ :: rest) m w := by
  refine ⟨fun a w' ha hw => ?_⟩
  unfold wpList
  rw [if_pos (hon.out a ha)]
  refine .inl ?_
  obtain ⟨es, clock, hb, hE⟩ := hM.ext hw
  have hr : (execOp a.eval ⟨some dst, .range t x, ty, pos, after, g⟩).run P w' = .ok (.value (.pointer (some ⟨w'.heap.size, 0, none⟩))) (w'.alloc (.mapIter (some b) clock #[] clock)) := by
    simp [execOp, ha.ev hx, run_range_map w' t kt et b es clock ht.h hb]
  unfold Oper.wp
  rw [hr]
  refine (h _ _ _ (hw.alloc _) hw.size ⟨es, clock, clock, #[], clock, ?_, hE, heap_alloc_new w' _, hE.old, Nat.le_refl _, Nat.le_refl _, rfl, fun x _ y _ => by simp⟩).out _ _ (ha.put (Nat.le_of_ble_eq_true hd) _) (Ext.refl _)
  rw [heap_alloc_old w' _ (lt_of_heap hb)]; exact hb
theorem Ops_nextJ {dst : Nat} {it : Operand} {T : List Int} {cnt : Nat} (hon : On N ops m ⟨some dst, .next it false, ty, pos, after, g⟩) (hd : Nat.ble (dst + 1) N.n = true)
    (hx : ev m it = some (.pointer (some ⟨r, 0, none⟩))) (hI : IterJ w b r k F T cnt)
    (hDone : (∀ y v, F y = some v → y ∈ T) → Ops P N ops false K rest ((dst, .tuple #[.bool false]) :: m) w)
    (hMore : ∀ y v w1 cnt', F y = some v → y ∉ T → IterJ w1 b r k F (T ++ [y]) cnt' → cnt' < cnt → w.grownBy w1 (some r) → EntryAt w1 b r k y v → Ops P N ops false K rest ((dst, .tuple #[.bool true, .int k y, v]) :: m) w1) :
    Ops P N ops false K (⟨some dst, .next it false, ty, pos, after, g⟩ :: rest) m w := by
  refine ⟨fun a w' ha hw => ?_⟩
  unfold wpList
  rw [if_pos (hon.out a ha)]
  refine .inl ?_
  rcases (hI.ext hw).next (P := P) ty with ⟨hall, hrun⟩ | ⟨y, v, w1, cnt', hF, hy, hrun, hI1, hlt, hg, hE⟩
  · have hr : (execOp a.eval ⟨some dst, .next it false, ty, pos, after, g⟩).run P w' = .ok (.value (.tuple #[.bool false])) w' := by
      simp [execOp, ha.ev hx, hrun]
    unfold Oper.wp
    rw [hr]
    exact (hDone hall).out _ _ (ha.put (Nat.le_of_ble_eq_true hd) _) hw
  · have hr : (execOp a.eval ⟨some dst, .next it false, ty, pos, after, g⟩).run P w' = .ok (.value (.tuple #[.bool true, .int k y, v])) w1 := by
      simp [execOp, ha.ev hx, hrun]
    unfold Oper.wp
    rw [hr]
    exact (hMore y v w1 cnt' hF hy hI1 hlt (grow_back hw hg) hE).out _ _ (ha.put (Nat.le_of_ble_eq_true hd) _) (Ext.refl _)
theorem Yl_entryJ {dst : Option Tmp} {it : Operand} {y : Int} {v : Value} (hx : ev m it = some (.pointer (some ⟨r, 0, none⟩))) (hE : EntryAt w b r k y v) : Yl P N m w ⟨dst, .entry it, ty, pos, after, g⟩ (.tuple #[.int k y, v]) :=
  Yl_of_run fun ac w' ha hw => by
    obtain ⟨es, clock, since, seen, e, hr, hb, hem, hn, h1, h2⟩ := hE.ext hw
    have := run_entry_at (P := P) w' r b since seen es clock e hr hb hem hn
    rw [h1, h2] at this
    simp [execOp, ha.ev hx, this]
theorem Ops_lenJ {dst : Nat} {t kt et : TypeId} {x : Operand} [ht : TMap P t kt et] (hon : On N ops m ⟨some dst, .call { callee := .builtin .len, args := #[x], argTypes := #[t] }, ty, pos, after, g⟩) (hd : Nat.ble (dst + 1) N.n = true)
    (hx : ev m x = some (.map (some b))) (hM : MapJ w b k F)
    (h : ∀ n : Nat, (n = 0 ↔ ∀ y, F y = none) → Ops P N ops false K rest ((dst, .int .i64 n) :: m) w) :
    Ops P N ops false K (⟨some dst, .call { callee := .builtin .len, args := #[x], argTypes := #[t] }, ty, pos, after, g⟩ :: rest) m w := by
  obtain ⟨es, clock, hb, hE⟩ := hM
  have hlt := lt_of_heap hb
  refine Ops_q hon hd (v := .int .i64 es.size) (Yl_of_run fun ac w' ha hw => ?_) (h es.size ?_)
  · have hb' : w'.heap[b]? = some (.map es clock) := (hw.block b hlt).trans hb
    simp [execOp, ha.ev hx, resolve, invoke, builtin, Builtin.len_, run_underlying ht.h, MapKept.run_getObj_map hb']
    rfl
  · constructor
    · intro h0 y
      cases hF : F y with
      | none => rfl
      | some v =>
        obtain ⟨e, he, _⟩ := (hE.has y v).1 hF
        have : 0 < es.toList.length := List.length_pos_of_mem he
        rw [Array.length_toList] at this; omega
    · intro hno
      refine Nat.eq_zero_of_not_pos fun hpos => ?_
      have hmem : es[0] ∈ es.toList := by simp
      have hk := hE.keys _ hmem
      cases hkk : es[0].key <;> rw [hkk] at hk <;> simp [IsKey] at hk
      subst hk
      have := (hE.has _ es[0].val).2 ⟨_, hmem, hkk, rfl⟩
      rw [hno] at this; cases this
end
end Go.Proofs.Ytjpnaofoeeegeaa


/-
  Regions that draw their order and hold one call among the first operations that may change what is there: what the others yield does not hang on it.
  No conditions beyond those that each rule states.
-/
namespace Go.Proofs.Ytjpnaofoeeegeaa
open Go.RowKit

section
variable {P : Program} {md : Region.Mode} {ops : Array Oper}
def yC (P : Program) (C : World → Prop) (o : Oper) (a : Act) (v : Value) : Prop := ∀ w', C w' → o.quietAt P a (Ext w') w' v
end

end Go.Proofs.Ytjpnaofoeeegeaa


/-
  Regions that draw their order and hold, among the first operations, several that each give a value in new memory (calls, allocations, literals): what the others yield does not hang on them.
  No conditions beyond those that each rule states.
-/
namespace Go.Proofs.Ytjpnaofoeeegeaa
open Go.RowKit

section
variable {P : Program} {md : Region.Mode} {ops : Array Oper}
/-- The operation leaves a value of which R is known, in a world that has grown. -/
def Giver (P : Program) (s : Sem Next) (w' : World) (R : Value → World → Prop) : Prop :=
  (∃ x w'', s.run P w' = .ok (.value x) w'' ∧ Ext w' w'' ∧ R x w'') ∨ ∃ f vs, s.run P w' = .ok (.enter f vs) w' ∧ Calls P f vs w' (fun e w'' => ∃ x, e = .returned x ∧ Ext w' w'' ∧ R x w'')
def LateG (P : Program) (w0 : World) (R : Value → World → Prop) (o : Oper) (a : Act) : Prop := ∀ w', Ext w0 w' → Giver P (execOp a.eval o) w' R
def giveY (P : Program) (w0 : World) (D : List Nat) (R : Nat → Value → World → Prop) (o : Oper) (a : Act) (v : Value) : Prop :=
  match o.dst with
  | some d => if D.contains d = true then v = undef ∧ LateG P w0 (R d) o a else yC P (Ext w0) o a v
  | none => yC P (Ext w0) o a v
theorem giveY_in {P : Program} {w0 : World} {D : List Nat} {R : Nat → Value → World → Prop} {o : Oper} {a : Act} {v : Value} {d : Nat} (hd : o.dst = some d) (hD : D.contains d = true) : giveY P w0 D R o a v = (v = undef ∧ LateG P w0 (R d) o a) := by
  unfold giveY; rw [hd]; simp only; rw [if_pos hD]
theorem giveY_out {P : Program} {w0 : World} {D : List Nat} {R : Nat → Value → World → Prop} {o : Oper} {a : Act} {v : Value} (hd : ∀ d, o.dst = some d → D.contains d = false) : giveY P w0 D R o a v = yC P (Ext w0) o a v := by
  unfold giveY
  cases hdst : o.dst with
  | none => rfl
  | some d => simp only; rw [if_neg (by rw [hd d hdst]; decide)]
theorem same_giveY (P : Program) (w0 : World) (D : List Nat) (R : Nat → Value → World → Prop) : Same (giveY P w0 D R) := fun o a a' v he h => by
  by_cases hd : ∃ d, o.dst = some d ∧ D.contains d = true
  · obtain ⟨d, h1, h2⟩ := hd
    rw [giveY_in h1 h2] at h ⊢
    refine ⟨h.1, fun w' hw' => ?_⟩
    rw [he]; exact h.2 w' hw'
  · have h1 : ∀ d, o.dst = some d → D.contains d = false := fun d h2 => by
      cases hc : D.contains d with
      | false => rfl
      | true => exact absurd ⟨d, h2, hc⟩ hd
    rw [giveY_out h1] at h ⊢
    intro w' hw'
    have := h w' hw'
    unfold Oper.quietAt at *
    rwa [he]

theorem give_any {n s : Nat} {D : List Nat} (early : Nat → Bool) {Q1 : Act → Prop} {Q : Exit → Act → World → Prop} {w0 : World} {R : Nat → Value → World → Prop} {pre : Array Oper} (hR : ∀ d x w w', Ext w w' → R d x w → R d x w') (hn : n ≤ ops.size) (hP : ∀ i o, i < n → ops[i]? = some o → pre[i]? = some o)
    (hA : ∀ i, n ≤ i → i < ops.size → ∀ j, j < n → early j = true ∨ reach ops md 9 i j = true)
    (hE : ∀ i o, ops[i]? = some o → i < n → ∀ e ∈ o.after, e.on < i)
    (hG : ∀ i o, ops[i]? = some o → i < n → ∀ g, o.guard = some g → g.1 < n ∧ ∀ o', ops[g.1]? = some o' → ∀ d ∈ D, o'.dst ≠ some d)
    (hsel : ∀ (j : Nat) (o : Oper) cs b, ops[j]? = some o → j < n → o.op ≠ .select cs b)
    (hD : ∀ i o, ops[i]? = some o → i < n → ∀ d ∈ D, d ∉ o.looksAt ops)
    (hg0 : ∀ i o, ops[i]? = some o → i < n → ∀ d ∈ D, o.dst = some d → o.guard = none)
    (hin : ∀ d ∈ D, ∃ i o, i < n ∧ ops[i]? = some o ∧ o.dst = some d)
    (last : ∀ a' a w, Ext w0 w → Q1 a' → But D a' a → (∀ d ∈ D, ∃ x, a.tmps[d]? = some x ∧ R d x w) → wpAny P md ops Q s (upto ops.size n) a w) :
    ∀ (f : Nat) (L L' : Array Bool) (a' a : Act) (w : World), Ext w0 w → L'.size = n → L.size = ops.size → (∀ j, j < n → L[j]? = L'[j]?) → (∀ j, n ≤ j → j < ops.size → L[j]? = some false) → cnt n L' = f →
      (∀ j, j < n → early j = true → L[j]? = some true) → Closed ops md L → But D a' a → (∀ d ∈ D, d < a.tmps.size) → (∀ d ∈ D, (∃ i o, L[i]? = some true ∧ i < n ∧ ops[i]? = some o ∧ o.dst = some d) → ∃ x, a.tmps[d]? = some x ∧ R d x w) →
      anyY md pre (giveY P w0 D R) Q1 f L' a' → wpAny P md ops Q (f + s) L a w := by
  intro f
  induction f with
  | zero =>
    intro L L' a' a w hC hs' hs h1 h2 hc hea hcl hbut hDs hm h
    have hlist : ∀ j, j < n → L[j]? = some true := fun j hj => by
      rw [h1 j hj]
      have := List.countP_eq_zero.1 hc j (List.mem_range.2 hj)
      have hlt : j < L'.size := by omega
      simp [hlt] at this
      simp [hlt, this]
    have hL : L = upto ops.size n := by
      refine Array.ext_getElem? fun j => ?_
      rcases Nat.lt_or_ge j ops.size with hj | hj
      · rw [upto_get _ _ _ hj]
        rcases Nat.lt_or_ge j n with hjn | hjn
        · rw [hlist j hjn]; simp [hjn]
        · rw [h2 j hjn hj]; simp; omega
      · rw [Array.getElem?_eq_none (by omega), Array.getElem?_eq_none (by rw [upto_size]; omega)]
    rw [Nat.zero_add]
    rw [hL]
    refine last a' a w hC h.2 hbut fun d hd => ?_
    obtain ⟨i, o, hi, ho, hd2⟩ := hin d hd
    exact hm d hd ⟨i, o, hlist i hi, hi, ho, hd2⟩
  | succ f ih =>
    intro L L' a' a w hC hs' hs h1 h2 hc hea hcl hbut hDs hm h
    rw [Nat.succ_add]
    have un : ∃ j, j < n ∧ L'[j]? = some false ∧ ∀ k, k < j → L'[k]? = some true := by
      have hpos : 0 < cnt n L' := by omega
      obtain ⟨j, hj, hjf⟩ := List.countP_pos_iff.1 hpos
      have hjn := List.mem_range.1 hj
      have hjl : j < L'.size := by omega
      have hjf' : L'[j]? = some false := by simp [hjl] at hjf ⊢; exact hjf
      clear hj hjf hjl
      induction j using Nat.strongRecOn with
      | ind j ihj =>
        by_cases hall : ∀ k, k < j → L'[k]? = some true
        · exact ⟨j, hjn, hjf', hall⟩
        · obtain ⟨k, hk⟩ := Classical.not_forall.1 hall
          obtain ⟨hkj, hk⟩ := Classical.not_imp.1 hk
          have hkl : k < L'.size := by omega
          refine ihj k hkj (by omega) ?_
          rw [Array.getElem?_eq_getElem hkl] at hk ⊢
          cases hb : L'[k] with
          | true => rw [hb] at hk; exact absurd rfl hk
          | false => rfl
    obtain ⟨j0, hj0, hjf, hbelow⟩ := un
    have on_lt : ∀ {i : Nat} {o : Oper} {e : Edge}, ops[i]? = some o → i < n → e ∈ o.after → L.getD e.on false = L'.getD e.on false := fun ho hi he => by
      have h4 := hE _ _ ho hi _ he
      rename_i i0 o0 e0
      have h3 := h1 e0.on (by omega)
      rw [Array.getD_eq_getD_getElem?, Array.getD_eq_getD_getElem?, h3]
    have lt_n : ∀ i, i ∈ Region.ready md ops L → i < n := fun i hi => by
      obtain ⟨_, o, ho, hall⟩ := mem_ready.1 hi
      rcases Nat.lt_or_ge i n with h3 | h3
      · exact h3
      · have hlt : i < ops.size := by
          rcases Nat.lt_or_ge i ops.size with h' | h'
          · exact h'
          · rw [Array.getElem?_eq_none h'] at ho; cases ho
        rcases hA i h3 hlt j0 hj0 with h4 | h4
        · have := hea j0 hj0 h4
          rw [h1 j0 hj0, hjf] at this; cases this
        · have := reach_listed hcl 9 i j0 (fun o' ho' => by obtain rfl := Option.some.inj (ho.symm.trans ho'); exact hall) h4
          rw [getD_of ((h1 j0 hj0).trans hjf)] at this
          cases this
    refine ⟨fun hr => ?_, fun i hi => ?_⟩
    · exfalso
      have hmem : j0 ∈ Region.ready md ops L := by
        have hlt : j0 < ops.size := by omega
        refine mem_ready.2 ⟨getD_of ((h1 j0 hj0).trans hjf) _, ops[j0], Array.getElem?_eq_getElem hlt, fun e he _ => ?_⟩
        have hlt' := hE j0 _ (Array.getElem?_eq_getElem hlt) hj0 e he
        exact getD_of ((h1 _ (by omega)).trans (hbelow _ hlt')) _
      rw [hr] at hmem; cases hmem
    · have hin' := lt_n i hi
      have hcl' := hcl.set hi
      obtain ⟨hun, o, ho, hall⟩ := mem_ready.1 hi
      have hpo : pre[i]? = some o := hP i o hin' ho
      have hun' : L'.getD i true = false := by
        have := h1 i hin'
        simp only [Array.getD_eq_getD_getElem?, ← this] at hun ⊢; exact hun
      have hi' : i ∈ Region.ready md pre L' := mem_ready.2 ⟨hun', o, hpo, fun e he hb => by rw [← on_lt ho hin' he]; exact hall e he hb⟩
      have hq := (stepY_iff hpo).1 (h.2 i hi')
      obtain ⟨v, hv, hK⟩ := hq
      have hset : ∀ j, j < n → (L.setIfInBounds i true)[j]? = (L'.setIfInBounds i true)[j]? := fun j hj => by
        by_cases e : i = j
        · subst e
          have hl1 : i < L.size := by omega
          have hl2 : i < L'.size := by omega
          simp [hl1, hl2]
        · rw [Array.getElem?_setIfInBounds_ne e, Array.getElem?_setIfInBounds_ne e]; exact h1 j hj
      have hset2 : ∀ j, n ≤ j → j < ops.size → (L.setIfInBounds i true)[j]? = some false := fun j hj hjs => by
        rw [Array.getElem?_setIfInBounds_ne (by omega)]; exact h2 j hj hjs
      have hea' : ∀ j, j < n → early j = true → (L.setIfInBounds i true)[j]? = some true := fun j hj he => by
        by_cases e : i = j
        · subst e
          have hl1 : i < L.size := by omega
          simp [hl1]
        · rw [Array.getElem?_setIfInBounds_ne e]; exact hea j hj he
      have hc' : cnt n (L'.setIfInBounds i true) = f := by have := cnt_set n L' i hin' hun'; omega
      have old : ∀ k, (L.setIfInBounds i true)[k]? = some true → k ≠ i → L[k]? = some true := fun k hk hki => by
        rwa [Array.getElem?_setIfInBounds_ne (Ne.symm hki)] at hk
      have hex : execOp a.eval o = execOp a'.eval o := hbut.exec o (fun cs b => hsel i o cs b ho hin') (fun x hx => hD i o ho hin' x hx)
      unfold wpOp
      simp only [ho]
      by_cases hdo : ∃ d, o.dst = some d ∧ D.contains d = true
      · obtain ⟨d, hdo, hdc⟩ := hdo
        have hdD : d ∈ D := by simpa using hdc
        have hgn := hg0 i o ho hin' d hdD hdo
        have hwt : ∀ y, Region.wanted o y = true := fun y => by unfold Region.wanted; rw [hgn]
        rw [if_pos (hwt _)]
        rcases hv with ⟨_, hy⟩ | ⟨hwn, _⟩
        · rw [giveY_in hdo hdc] at hy
          obtain ⟨rfl, hl⟩ := hy
          have cont : ∀ x w'', Ext w w'' → R d x w'' → wpAny P md ops Q (f + s) (L.setIfInBounds i true) (a.put o.dst x) w'' := fun x w'' hCw hRx => by
            rw [hdo] at hK ⊢
            have hb2 : But D (a'.put (some d) undef) (a.put (some d) x) := by
              refine ⟨hbut.defers, by simp [Act.put, hbut.size], fun k hk => ?_⟩
              have hne : d ≠ k := fun e => hk (by rw [← e]; exact hdD)
              simp only [Act.put]
              rw [Array.getElem?_setIfInBounds_ne hne, Array.getElem?_setIfInBounds_ne hne]
              exact hbut.slot k hk
            refine ih _ _ _ _ w'' (hC.trans hCw) (by simpa using hs') (by simpa using hs) hset hset2 hc' hea' hcl' hb2 (fun d2 hd2 => by simp [Act.put, hDs d2 hd2]) (fun d2 hd2 ⟨k, ok, hk, hkn, hok, hkd⟩ => ?_) hK
            by_cases e : d2 = d
            · subst e; exact ⟨x, by simp [Act.put, hDs d2 hd2], hRx⟩
            · have hki : k ≠ i := fun e2 => by subst e2; obtain rfl := Option.some.inj (ho.symm.trans hok); rw [hdo] at hkd; cases hkd; exact e rfl
              obtain ⟨z, m1, m2⟩ := hm d2 hd2 ⟨k, ok, old k hk hki, hkn, hok, hkd⟩
              refine ⟨z, ?_, hR d2 z _ _ hCw m2⟩
              simp only [Act.put]
              rw [Array.getElem?_setIfInBounds_ne (fun e2 => e e2.symm)]; exact m1
          refine .inl ?_
          unfold Oper.wp
          rcases hl w hC with ⟨x, w'', hrun, hCw, hRx⟩ | ⟨f', vs, hrun, hcall⟩
          · rw [← hex] at hrun
            rw [hrun]
            exact cont x w'' hCw hRx
          · rw [← hex] at hrun
            rw [hrun]
            refine Calls.mono hcall fun e w'' hg => ?_
            obtain ⟨x, rfl, hCw, hRx⟩ := hg
            exact cont x w'' hCw hRx
        · rw [hwt] at hwn; cases hwn
      · have hdn : ∀ d, o.dst = some d → D.contains d = false := fun d h2 => by
          cases hc : D.contains d with
          | false => rfl
          | true => exact absurd ⟨d, h2, hc⟩ hdo
        have hdn2 : ∀ d ∈ D, o.dst ≠ some d := fun d hd e => by
          have := hdn d e
          rw [List.contains_iff_mem.2 hd] at this; cases this
        have hw : Region.wanted o (yielded pre a'.tmps) = Region.wanted o (yielded ops a.tmps) := by
          unfold Region.wanted
          cases hg : o.guard with
          | none => rfl
          | some gd =>
            obtain ⟨hg1, hg2⟩ := hG i o ho hin' gd hg
            have hlt : gd.1 < ops.size := by omega
            have hog := Array.getElem?_eq_getElem hlt
            have hpg := hP _ _ hg1 hog
            have hy : yielded pre a'.tmps gd.1 = yielded ops a.tmps gd.1 := by
              simp only [yielded, hpg, hog, Option.bind_some]
              cases hd : (ops[gd.1]'hlt).dst with
              | none => rfl
              | some d' =>
                have hdD : d' ∉ D := fun hdD => hg2 _ hog d' hdD hd
                simp only [Option.bind_some, hbut.slot d' hdD]
            simp only [hy]
        have made : ∀ u w'', Ext w w'' → ∀ d ∈ D, (∃ k o, (L.setIfInBounds i true)[k]? = some true ∧ k < n ∧ ops[k]? = some o ∧ o.dst = some d) → ∃ x, (a.put o.dst u).tmps[d]? = some x ∧ R d x w'' := fun u w'' hw'' d hd ⟨k, ok, hk, hkn, hok, hkd⟩ => by
          have hki : k ≠ i := fun e => by subst e; obtain rfl := Option.some.inj (ho.symm.trans hok); exact hdn2 d hd hkd
          obtain ⟨x, m1, m2⟩ := hm d hd ⟨k, ok, old k hk hki, hkn, hok, hkd⟩
          refine ⟨x, ?_, hR d x _ _ hw'' m2⟩
          cases hdst : o.dst with
          | none => exact m1
          | some y =>
            have : y ≠ d := fun e => hdn2 d hd (by rw [hdst, e])
            simp only [Act.put]
            rw [Array.getElem?_setIfInBounds_ne this]; exact m1
        have szP : ∀ u, ∀ d ∈ D, d < (a.put o.dst u).tmps.size := fun u d hd => by cases o.dst <;> simp [Act.put, hDs d hd]
        rcases hv with ⟨hwn, hy⟩ | ⟨hwn, hvu⟩
        · rw [giveY_out hdn] at hy
          rw [hw] at hwn
          rw [if_pos hwn]
          refine .inl (Oper.wp_of_quiet (C := fun w'' => Ext w w'') (K := fun x => x = a.put o.dst v) (Ext.refl w) (fun a1 w1 hw1 e => ?_) ?_)
          · subst e
            exact ih _ _ (a'.put o.dst v) _ w1 (hC.trans hw1) (by simpa using hs') (by simpa using hs) hset hset2 hc' hea' hcl' (hbut.put _ _) (szP v) (made v w1 hw1) hK
          · refine ⟨v, fun w1 hw1 => ?_, rfl⟩
            have hq1 := hy w1 (hC.trans hw1)
            unfold Oper.quietAt at hq1 ⊢
            rw [← hex] at hq1
            generalize (execOp a.eval o).run P w1 = r at *
            cases r with
            | ok nx w2 =>
              cases nx <;> simp only [Oper.quietUpon] at hq1 ⊢ <;> first | exact hq1 | exact ⟨hq1.1, hq1.2.mono fun e w3 h3 => ⟨h3.1, hw1.trans h3.2⟩⟩
            | halt x w2 => simp only [Oper.quietUpon] at hq1
        · rw [hw] at hwn
          rw [if_neg (by rw [hwn]; exact Bool.false_ne_true)]
          subst hvu
          exact ih _ _ (a'.put o.dst undef) _ w hC (by simpa using hs') (by simpa using hs) hset hset2 hc' hea' hcl' (hbut.put _ _) (szP _) (made undef w (Ext.refl w)) hK

/-- lateB, for several slots. -/
def giveB (ops : Array Oper) (n : Nat) (D : List Nat) : Bool :=
  Nat.ble n ops.size && Region.noSelect ops && Region.lexB .any (ops.toList.take n).toArray &&
  (List.range ops.size).all (fun i => match ops[i]? with
    | none => true
    | some o => if Nat.ble (i + 1) n then (o.after.all fun e => Nat.ble (e.on + 1) i) &&
        (match o.guard with
          | none => true
          | some g => Nat.ble (g.1 + 1) n && (match ops[g.1]? with
            | none => true
            | some o' => D.all fun d => !(o'.dst == some d))) &&
        (D.all fun d => !(o.looksAt ops).contains d) &&
        (D.all fun d => if o.dst == some d then o.guard.isNone else true)
      else (List.range n).all fun j => reach ops .any 9 i j) &&
  (List.range ops.size).all (fun k => Nat.ble (k + 1) n || (match Region.ready .any ops (upto ops.size k) with
    | [k'] => Nat.beq k' k
    | _ => false)) &&
  (Region.ready .any ops (upto ops.size ops.size)).isEmpty &&
  D.all fun d => (List.range n).any (fun i => match ops[i]? with
    | some o => o.dst == some d
    | none => false)
theorem wp_give {ro : Option Nat} {l : List Oper} {n id : Nat} {D : List Nat} {Q1 : Act → Prop} {Q : Exit → Act → World → Prop} {w0 w : World} {a : Act} {R : Nat → Value → World → Prop} (hR : ∀ d x w w', Ext w w' → R d x w → R d x w') (hnd : NoDef ro l) (hQ : ¬LetsOut Q) (hm : P.follows .mixedOrders = true) (hB : giveB l.toArray n D = true)
    (hd : ∀ d ∈ D, d < a.tmps.size) (hw : Ext w0 w)
    (h : listY (l.take n).toArray (giveY P w0 D R) Q1 (l.take n) a)
    (last : ∀ a' a w, Ext w0 w → Q1 a' → But D a' a → (∀ d ∈ D, ∃ x, a.tmps[d]? = some x ∧ R d x w) → wpList P l.toArray Q (l.drop n) a w) :
    WpR ro P (.region id l.toArray true) Q a w := by
  simp only [giveB, Bool.and_eq_true] at hB
  obtain ⟨⟨⟨⟨⟨⟨b1, b0⟩, b2⟩, b3⟩, b4⟩, b5⟩, b6⟩ := hB
  have hn : n ≤ l.toArray.size := Nat.le_of_ble_eq_true b1
  have hnl : n ≤ l.length := by simpa using hn
  have at3 : ∀ i o, l.toArray[i]? = some o → _ := fun i o ho => by
    have hlt : i < l.toArray.size := by
      rcases Nat.lt_or_ge i l.toArray.size with h' | h'
      · exact h'
      · rw [Array.getElem?_eq_none h'] at ho; cases ho
    have := List.all_eq_true.1 b3 i (List.mem_range.2 hlt)
    simp only [ho] at this
    exact this
  have pre3 : ∀ i o, l.toArray[i]? = some o → i < n → _ := fun i o ho hi => by
    have := at3 i o ho
    rw [if_pos (Nat.ble_eq_true_of_le hi)] at this
    simp only [Bool.and_eq_true] at this
    exact this
  have hP : ∀ i o, i < n → l.toArray[i]? = some o → (l.take n).toArray[i]? = some o := fun i o hi ho => by
    have : l[i]? = some o := by simpa using ho
    simp [hi, this]
  have hE : ∀ i o, l.toArray[i]? = some o → i < n → ∀ e ∈ o.after, e.on < i := fun i o ho hi e he =>
    Nat.le_of_ble_eq_true (Array.all_eq_true_iff_forall_mem.1 (pre3 i o ho hi).1.1.1 e he)
  have hG : ∀ i o, l.toArray[i]? = some o → i < n → ∀ g, o.guard = some g → g.1 < n ∧ ∀ o', l.toArray[g.1]? = some o' → ∀ d ∈ D, o'.dst ≠ some d := fun i o ho hi g hg => by
    have h2 := (pre3 i o ho hi).1.1.2
    rw [hg] at h2
    simp only [Bool.and_eq_true] at h2
    refine ⟨Nat.le_of_ble_eq_true h2.1, fun o' ho' d hd => ?_⟩
    have h3 := h2.2
    rw [ho'] at h3
    have h4 := List.all_eq_true.1 h3 d hd
    simpa using h4
  have hD : ∀ i o, l.toArray[i]? = some o → i < n → ∀ d ∈ D, d ∉ o.looksAt l.toArray := fun i o ho hi d hd => by
    have h2 := List.all_eq_true.1 (pre3 i o ho hi).1.2 d hd
    simpa using h2
  have hlate : ∀ i o, l.toArray[i]? = some o → i < n → ∀ d ∈ D, o.dst = some d → o.guard = none := fun i o ho hi d hd hdo => by
    have h2 := List.all_eq_true.1 (pre3 i o ho hi).2 d hd
    rw [if_pos (by rw [hdo]; simp)] at h2
    simpa using h2
  have hA : ∀ i, n ≤ i → i < l.toArray.size → ∀ j, j < n → (fun _ => false) j = true ∨ reach l.toArray .any 9 i j = true := fun i hi his j hj => by
    have := at3 i _ (Array.getElem?_eq_getElem his)
    rw [if_neg (fun hb => by have := Nat.le_of_ble_eq_true hb; omega)] at this
    exact .inr (List.all_eq_true.1 this j (List.mem_range.2 hj))
  have hr : ∀ k, n ≤ k → k < l.toArray.size → Region.ready .any l.toArray (upto l.toArray.size k) = [k] := fun k hk hks => by
    have := List.all_eq_true.1 b4 k (List.mem_range.2 hks)
    simp only [Bool.or_eq_true] at this
    rcases this with h' | h'
    · have := Nat.le_of_ble_eq_true h'; omega
    · split at h'
      · rename_i k' he
        rw [he, Nat.eq_of_beq_eq_true h']
      · cases h'
  have he : Region.ready .any l.toArray (upto l.toArray.size l.toArray.size) = [] := by simpa using b5
  have hex : ∀ d ∈ D, ∃ i o, i < n ∧ l.toArray[i]? = some o ∧ o.dst = some d := fun d hd => by
    obtain ⟨i, hi, h2⟩ := List.any_eq_true.1 (List.all_eq_true.1 b6 d hd)
    have hi' := List.mem_range.1 hi
    have hlt : i < l.toArray.size := by omega
    rw [Array.getElem?_eq_getElem hlt] at h2
    exact ⟨i, _, hi', Array.getElem?_eq_getElem hlt, by simpa using h2⟩
  simp only [Region.lexB, Bool.and_eq_true] at b2
  have hdl : (l.drop n).length = l.toArray.size - n := by simp
  have hlen : (l.take n).length = n := by simp; omega
  refine wpR_region_any (by simpa using hnd) hQ hm ?_
  have quiet := anyY_lex (md := .any) (same_giveY P w0 D R) b2.1 (l.take n) 0 (Array.replicate (l.take n).toArray.size false) a (by simp) (by simpa using b2.2) h
  have key := give_any (P := P) (md := .any) (ops := l.toArray) (pre := (l.take n).toArray) (n := n) (s := (l.drop n).length) (D := D) (fun _ => false) (Q := Q) (Q1 := Q1) (w0 := w0) (R := R)
    hR hn hP hA hE hG (fun j o cs b ho _ => Region.noSelect_spec b0 j o cs b ho) hD (fun i o ho hi d hd hdo => hlate i o ho hi d hd hdo) hex
    (fun a' a1 w1 hw1 q1 hb hmd => one_any hr he (l.drop n) n (Nat.le_refl _) (by rw [hdl]; omega) (fun j => by simp) a1 w1
      (last a' a1 w1 hw1 q1 hb hmd))
  have hall : ∀ k : Nat, (Array.replicate l.toArray.size false)[k]? ≠ some true := fun k hk => by
    simp only [Array.getElem?_replicate] at hk
    split at hk <;> simp at hk
  have hcnt : cnt n (Array.replicate (l.take n).toArray.size false) = (l.take n).length := by
    unfold cnt
    rw [List.countP_eq_length.2]
    · rw [hlen]; simp
    · intro j hj
      have := List.mem_range.1 hj
      have h2 : j < (l.take n).toArray.size := by simp; omega
      simp only [Array.getD_eq_getD_getElem?, Array.getElem?_replicate]
      rw [if_pos h2]; rfl
  have hsame : ∀ j, j < n → (Array.replicate l.toArray.size false)[j]? = (Array.replicate (l.take n).toArray.size false)[j]? := fun j hj => by
    have h1 : j < l.length := by omega
    have h2 : j < (l.take n).length := by omega
    simp only [Array.getElem?_replicate]
    rw [if_pos (by simpa using h1), if_pos (by simpa using h2)]
  have hclosed : Closed l.toArray .any (Array.replicate l.toArray.size false) := fun (k : Nat) o hk => by
    simp only [Array.getD_eq_getD_getElem?, Array.getElem?_replicate] at hk
    split at hk <;> simp at hk
  have e : (l.take n).length + (l.drop n).length = l.toArray.size := by rw [hlen, hdl]; omega
  have := key (l.take n).length (Array.replicate l.toArray.size false) (Array.replicate (l.take n).toArray.size false) a a { w with drawn := w.drawn + 1 } hw.draw (by simp; omega) (by simp)
    hsame (fun j _ hj => by simp only [Array.getElem?_replicate]; rw [if_pos hj]) hcnt (fun j _ h => by cases h) hclosed ⟨rfl, rfl, fun _ _ => rfl⟩ hd (fun d _ ⟨i, o, hi, _⟩ => absurd hi (hall i)) quiet
  rwa [e] at this

end


section
variable {P : Program} {N : Fr} {m : Env} {w : World}
/-- The operation gives R in every frame that agrees and every world that has grown from w. -/
structure Gvs (P : Program) (N : Fr) (m : Env) (w : World) (o : Oper) (R : Value → World → Prop) : Prop where
  out : ∀ a w', Agree N m a → Ext w w' → Giver P (execOp a.eval o) w' R
theorem Gvs_call {dst : Option Tmp} {f : FuncId} {xs : Array Operand} {ats : Array TypeId} {ty : TypeId} {pos : String} {after : Array Edge} {g : Option (Nat × Bool)} {vs : List Value} {R : Value → World → Prop} [hf : TFun P f] (hx : evs m xs.toList = some vs)
    (hc : ∀ w', Ext w w' → Calls P f vs.toArray w' (Gives R w')) : Gvs P N m w ⟨dst, .call { callee := .value (.func f), args := xs, argTypes := ats }, ty, pos, after, g⟩ R := ⟨fun a w' ha hw => .inr ⟨f, vs.toArray, by
  have e1 : xs.map a.eval = vs.toArray := map_evs ha hx
  rw [execOp_call_go, e1]
  simpa using hf.h vs.toArray w', hc w' hw⟩⟩
/-- Operations without guards that yield the same values in every grown world; K is known of the frame behind them. -/
def YsG (P : Program) (N : Fr) (w0 : World) (D : List Nat) (K : Env → Prop) : List Oper → Env → Prop
  | [], m => K m
  | o :: r, m => ∃ d' v, o.dst = some d' ∧ Nat.ble (d' + 1) N.n = true ∧ D.contains d' = false ∧ o.guard = none ∧ (∀ w, Ext w0 w → Yl P N m w o v) ∧ YsG P N w0 D K r ((d', v) :: m)
theorem YsG.nil {D : List Nat} {K : Env → Prop} {l : List Oper} (hl : l = []) (h : K m) : YsG P N w D K l m := by subst hl; exact h
theorem Yl.up {w w' : World} {o : Oper} {v : Value} (h : Yl P N m w o v) (he : Ext w w') : Yl P N m w' o v := ⟨fun a w1 ha hw => h.out a w1 ha (he.trans hw)⟩
theorem YsG.q {D : List Nat} {d' : Nat} {op : Op} {ty : TypeId} {pos : String} {after : Array Edge} {r : List Oper} {v : Value} {K : Env → Prop} (h2 : Nat.ble (d' + 1) N.n = true) (h3 : D.contains d' = false) (hq : Yl P N m w ⟨some d', op, ty, pos, after, none⟩ v)
    (h6 : YsG P N w D K r ((d', v) :: m)) : YsG P N w D K (⟨some d', op, ty, pos, after, none⟩ :: r) m := ⟨d', v, rfl, h2, h3, rfl, fun _ he => hq.up he, h6⟩
theorem listY_ysG {ops : Array Oper} {Q : Act → Prop} {w0 : World} {R : Nat → Value → World → Prop} {D : List Nat} {K : Env → Prop} (hQ : ∀ M a, K M → Agree N M a → Q a) : ∀ (l : List Oper) (m : Env) (a : Act), YsG P N w0 D K l m → Agree N m a → listY ops (giveY P w0 D R) Q l a
  | [], m, a, h, ha => hQ m a h ha
  | o :: r, m, a, h, ha => by
    obtain ⟨d', v, h1, h2, h3, h4, h5, h6⟩ := h
    unfold listY
    rw [if_pos (by unfold Region.wanted; rw [h4])]
    refine ⟨v, ?_, ?_⟩
    · rw [giveY_out (fun d hd => by rw [h1] at hd; cases hd; exact h3)]
      exact fun w' hw' => (h5 w' hw').out a w' ha (Ext.refl _)
    · rw [h1]
      exact listY_ysG hQ r _ _ h6 (ha.put (Nat.le_of_ble_eq_true h2) v)
theorem wpList_lift {ops : Array Oper} {Q : Exit → Env → World → Prop} : ∀ (l' : List Oper) (a : Act) (w0 : World), wpList P ops (fun e a' w'' => e = .normal ∧ ∃ m' w1, Q .normal m' w1 ∧ Agree N m' a' ∧ Ext w1 w'') l' a w0 → wpList P ops (fun e a w => e = .normal ∧ lift N Q .normal a w) l' a w0 := by
  intro l'
  induction l' with
  | nil => exact fun a w0 ⟨_, m', w1, q, ag, ex⟩ => ⟨rfl, m', w1, q, ag, ex⟩
  | cons o r ih =>
    intro a w0 h6
    unfold wpList at h6 ⊢
    split
    · rename_i hwn
      rw [if_pos hwn] at h6
      rcases h6 with h6 | h6
      · exact .inl (wp_normal (fun a1 w1 hh => ih a1 w1 hh) h6)
      · obtain ⟨_, _, _, h7, _⟩ := h6; cases h7
    · rename_i hwn
      rw [if_neg hwn] at h6
      exact ih _ _ h6
/-- A region that draws its order, with an operation that gives (at the place i1) among its first n. -/
theorem V_give1 (n i1 : Nat) {Q : Exit → Env → World → Prop} {id : Nat} {l : List Oper} {o1 : Oper} {d1 : Nat} (R1 : Value → World → Prop)
    (hR1 : ∀ x w w', Ext w w' → R1 x w → R1 x w')
    (hm : P.follows .mixedOrders = true) (ho : l.take n = l.take i1 ++ o1 :: (l.take n).drop (i1 + 1)) (h1 : o1.dst = some d1) (g1 : o1.guard = none) (hB : giveB l.toArray n [d1] = true)
    (hd1 : Nat.ble (d1 + 1) N.n = true)
    (h : YsG P N w [d1] (fun M1 => Gvs P N M1 w o1 R1 ∧ YsG P N w [d1] (fun M3 => ∀ x1 w2, Ext w w2 → R1 x1 w2 → Ops P N l.toArray false (fun m w => Q .normal m w) (l.drop n) ((d1, x1) :: M3) w2)
      ((l.take n).drop (i1 + 1)) ((d1, undef) :: M1)) (l.take i1) m)
    (hnd : NoDef N.ro l := by first | exact .inl rfl | exact .inr (by kernel_rfl)) :
    V P N (.region id l.toArray true) Q m w := by
  have lt1 : d1 < N.n := Nat.le_of_ble_eq_true hd1
  refine ⟨fun a w' ha hw => wpR_mono (Q := fun e a w => e = .normal ∧ lift N Q .normal a w) (fun e a w ⟨h1, h2⟩ => by rw [h1]; exact h2) ?_⟩
  refine wp_give (w0 := w) (D := [d1]) (R := fun _ => R1) (fun d x w w' he hx => hR1 x w w' he hx) hnd noLet hm hB (fun d hd => by
    rw [ha.size, List.mem_singleton.1 hd]; exact lt1) hw (Q1 := fun a' => ∃ M3, (∀ x1 w2, Ext w w2 → R1 x1 w2 → Ops P N l.toArray false (fun m w => Q .normal m w) (l.drop n) ((d1, x1) :: M3) w2) ∧ Agree N M3 a') ?_ ?_
  · generalize hL : (l.take n).toArray = A
    rw [ho]
    refine listY_append _ _ _ (listY_ysG (fun M1 a1 ⟨hg1, h2'⟩ ag1 => ?_) _ _ _ h ha)
    unfold listY
    rw [if_pos (by unfold Region.wanted; rw [g1])]
    refine ⟨undef, ?_, ?_⟩
    · rw [giveY_in h1 (by simp)]
      exact ⟨rfl, fun w1 hw1 => hg1.out a1 w1 ag1 hw1⟩
    · rw [h1]
      exact listY_ysG (fun M3 _ h3 ag3 => ⟨M3, h3, ag3⟩) _ _ _ h2' (ag1.put lt1 undef)
  · rintro a' a1 w1 hw1 ⟨M3, h, ag⟩ hb hx
    obtain ⟨x1, hx1, hr1⟩ := hx d1 (by simp)
    have ag1 : Agree N ((d1, x1) :: M3) a1 := by
      refine ⟨by rw [hb.defers]; exact ag.defers, by rw [hb.size]; exact ag.size, fun i v hi => ?_⟩
      by_cases e : d1 = i
      · subst e
        rw [look_same] at hi; cases hi; exact hx1
      · rw [look_other _ _ e] at hi
        rw [hb.slot i (fun h => e (List.mem_singleton.1 h).symm)]
        exact ag.slot i v hi
    exact wpList_lift _ _ _ ((h x1 w1 hw1 hr1).out a1 w1 ag1 (Ext.refl _))
/-- A region that draws its order, with two operations that give (at the places i1 and i2) among its first n. -/
theorem V_give2 (n i1 i2 : Nat) {Q : Exit → Env → World → Prop} {id : Nat} {l : List Oper} {o1 o2 : Oper} {d1 d2 : Nat} (R1 R2 : Value → World → Prop)
    (hR1 : ∀ x w w', Ext w w' → R1 x w → R1 x w') (hR2 : ∀ x w w', Ext w w' → R2 x w → R2 x w')
    (hm : P.follows .mixedOrders = true) (ho : l.take n = l.take i1 ++ o1 :: ((l.take i2).drop (i1 + 1) ++ o2 :: (l.take n).drop (i2 + 1))) (h1 : o1.dst = some d1) (h2 : o2.dst = some d2) (g1 : o1.guard = none) (g2 : o2.guard = none) (hB : giveB l.toArray n [d1, d2] = true)
    (hd1 : Nat.ble (d1 + 1) N.n = true) (hd2 : Nat.ble (d2 + 1) N.n = true) (hne : Nat.beq d1 d2 = false)
    (h : YsG P N w [d1, d2] (fun M1 => Gvs P N M1 w o1 R1 ∧ YsG P N w [d1, d2] (fun M2 => Gvs P N M2 w o2 R2 ∧ YsG P N w [d1, d2] (fun M3 => ∀ x1 x2 w2, Ext w w2 → R1 x1 w2 → R2 x2 w2 → Ops P N l.toArray false (fun m w => Q .normal m w) (l.drop n) ((d2, x2) :: (d1, x1) :: M3) w2)
      ((l.take n).drop (i2 + 1)) ((d2, undef) :: M2)) ((l.take i2).drop (i1 + 1)) ((d1, undef) :: M1)) (l.take i1) m)
    (hnd : NoDef N.ro l := by first | exact .inl rfl | exact .inr (by kernel_rfl)) :
    V P N (.region id l.toArray true) Q m w := by
  have lt1 : d1 < N.n := Nat.le_of_ble_eq_true hd1
  have lt2 : d2 < N.n := Nat.le_of_ble_eq_true hd2
  have hne' : d1 ≠ d2 := fun e => by subst e; rw [Nat.beq_refl] at hne; cases hne
  refine ⟨fun a w' ha hw => wpR_mono (Q := fun e a w => e = .normal ∧ lift N Q .normal a w) (fun e a w ⟨h1, h2⟩ => by rw [h1]; exact h2) ?_⟩
  refine wp_give (w0 := w) (D := [d1, d2]) (R := fun d => if d = d1 then R1 else R2) (fun d x w w' he hx => by split at hx <;> rename_i e <;> simp only [e, if_true, if_false] <;> first | exact hR1 x w w' he hx | exact hR2 x w w' he hx) hnd noLet hm hB (fun d hd => by
    rw [ha.size]
    rcases List.mem_cons.1 hd with rfl | hd
    · exact lt1
    · rw [List.mem_singleton.1 hd]; exact lt2) hw (Q1 := fun a' => ∃ M3, (∀ x1 x2 w2, Ext w w2 → R1 x1 w2 → R2 x2 w2 → Ops P N l.toArray false (fun m w => Q .normal m w) (l.drop n) ((d2, x2) :: (d1, x1) :: M3) w2) ∧ Agree N M3 a') ?_ ?_
  · generalize hL : (l.take n).toArray = A
    rw [ho]
    refine listY_append _ _ _ (listY_ysG (fun M1 a1 ⟨hg1, h2'⟩ ag1 => ?_) _ _ _ h ha)
    unfold listY
    rw [if_pos (by unfold Region.wanted; rw [g1])]
    refine ⟨undef, ?_, ?_⟩
    · rw [giveY_in h1 (by simp)]
      refine ⟨rfl, fun w1 hw1 => ?_⟩
      rw [if_pos rfl]; exact hg1.out a1 w1 ag1 hw1
    · rw [h1]
      refine listY_append _ _ _ (listY_ysG (fun M2 a2 ⟨hg2, h3'⟩ ag2 => ?_) _ _ _ h2' (ag1.put lt1 undef))
      unfold listY
      rw [if_pos (by unfold Region.wanted; rw [g2])]
      refine ⟨undef, ?_, ?_⟩
      · rw [giveY_in h2 (by simp)]
        refine ⟨rfl, fun w1 hw1 => ?_⟩
        rw [if_neg (Ne.symm hne')]; exact hg2.out a2 w1 ag2 hw1
      · rw [h2]
        exact listY_ysG (fun M3 _ h3 ag3 => ⟨M3, h3, ag3⟩) _ _ _ h3' (ag2.put lt2 undef)
  · rintro a' a1 w1 hw1 ⟨M3, h, ag⟩ hb hx
    obtain ⟨x1, hx1, hr1⟩ := hx d1 (by simp)
    obtain ⟨x2, hx2, hr2⟩ := hx d2 (by simp)
    rw [if_pos rfl] at hr1
    rw [if_neg (Ne.symm hne')] at hr2
    have ag1 : Agree N ((d2, x2) :: (d1, x1) :: M3) a1 := by
      refine ⟨by rw [hb.defers]; exact ag.defers, by rw [hb.size]; exact ag.size, fun i v hi => ?_⟩
      by_cases e2 : d2 = i
      · subst e2
        rw [look_same] at hi; cases hi; exact hx2
      · rw [look_other _ _ e2] at hi
        by_cases e : d1 = i
        · subst e
          rw [look_same] at hi; cases hi; exact hx1
        · rw [look_other _ _ e] at hi
          rw [hb.slot i (fun h => by
            rcases List.mem_cons.1 h with h | h
            · exact e h.symm
            · exact e2 (List.mem_singleton.1 h).symm)]
          exact ag.slot i v hi
    have h5 := (h x1 x2 w1 hw1 hr1 hr2).out a1 w1 ag1 (Ext.refl _)
    have mono : ∀ (l' : List Oper) (a : Act) (w0 : World), wpList P l.toArray (fun e a' w'' => e = .normal ∧ ∃ m' w1, Q .normal m' w1 ∧ Agree N m' a' ∧ Ext w1 w'') l' a w0 → wpList P l.toArray (fun e a w => e = .normal ∧ lift N Q .normal a w) l' a w0 := by
      intro l'
      induction l' with
      | nil => exact fun a w0 ⟨_, m', w1, q, ag, ex⟩ => ⟨rfl, m', w1, q, ag, ex⟩
      | cons o r ih =>
        intro a w0 h6
        unfold wpList at h6 ⊢
        split
        · rename_i hwn
          rw [if_pos hwn] at h6
          rcases h6 with h6 | h6
          · exact .inl (wp_normal (fun a1 w1 hh => ih a1 w1 hh) h6)
          · obtain ⟨_, _, _, h7, _⟩ := h6; cases h7
        · rename_i hwn
          rw [if_neg hwn] at h6
          exact ih _ _ h6
    exact mono _ _ _ h5
end
end Go.Proofs.Ytjpnaofoeeegeaa


/-
  Tables (layer 7): the search for the second half of a list; sets of values: joined, least.
  Conditions: the lists are not too long for a machine.
-/
namespace Go.Proofs.Ytjpnaofoeeegeaa
open Go.RowKit

/-! ### BinarySearchFunc -/
theorem growCmp_v (e : En) (q : Pf) (w : World) : Calls Try.prog 68 #[e.val, q.val] w (Ret (.int .i64 (if e.p.a < q.a then -1 else 1)) w) := by
  refine V_enter (vs := [_, _]) Try.func68 rfl Try.ntmps68 (Nat.le_of_ble_eq_true rfl) ?_
  repeat (first | refine Vx ?_ | (apply Ops_q; (case hon => exact Va); (case hd => rfl); (case hq => exact YlA)) | refine Vr ?_ | refine Vt ?_ | refine Vf ?_ | refine Vm ?_ | refine Ve ?_ | refine Vo ?_ | refine Vz ?_ | refine Vn ?_)
  (refine Ops_box (by exact Va) rfl rfl rfl ?_; intro w1 b2 n_b2; have k_b2 := n_b2.blk)
  repeat (first | refine Vx ?_ | (apply Ops_q; (case hon => exact Va); (case hd => rfl); (case hq => exact YlA)) | refine Vr ?_ | refine Vt ?_ | refine Vf ?_ | refine Vm ?_ | refine Ve ?_ | refine Vo ?_ | refine Vz ?_ | refine Vn ?_)
  (refine Ops_box (by exact Va) rfl rfl rfl ?_; intro w2 b3 n_b3; have k_b3 := n_b3.blk)
  replace k_b2 := k_b2.ext n_b3.ext
  have e2 := n_b2.ext.trans n_b3.ext
  repeat (first | refine Vx ?_ | (apply Ops_q; (case hon => exact Va); (case hd => rfl); (case hq => exact YlA)) | refine Vr ?_ | refine Vt ?_ | refine Vf ?_ | refine Vm ?_ | refine Ve ?_ | refine Vo ?_ | refine Vz ?_ | refine Vn ?_)
  refine V_cond rfl (fun h => ?_) (fun h => ?_)
  · have h' : e.p.a < q.a := by have := of_decide_eq_true h; omega
    repeat (first | refine Vx ?_ | (apply Ops_q; (case hon => exact Va); (case hd => rfl); (case hq => exact YlA)) | refine Vr ?_ | refine Vt ?_ | refine Vf ?_ | refine Vm ?_ | refine Ve ?_ | refine Vo ?_ | refine Vz ?_ | refine Vn ?_)
    refine ret1 (by first | exact .inl rfl | exact .inr rfl) rfl rfl ?_
    exact Ret_mk (by rw [if_pos h']) e2
  · have h' : ¬e.p.a < q.a := by have := of_decide_eq_false h; omega
    repeat (first | refine Vx ?_ | (apply Ops_q; (case hon => exact Va); (case hd => rfl); (case hq => exact YlA)) | refine Vr ?_ | refine Vt ?_ | refine Vf ?_ | refine Vm ?_ | refine Ve ?_ | refine Vo ?_ | refine Vz ?_ | refine Vn ?_)
    refine ret1 (by first | exact .inl rfl | exact .inr rfl) rfl rfl ?_
    exact Ret_mk (by rw [if_neg h']) e2
theorem split_at {A B : List En} {q : Pf} (hA : ∀ e ∈ A, e.p.a < q.a) (hB : ∀ e ∈ B, q.a ≤ e.p.a) {h : Nat} {x : En} (hx : (A ++ B)[h]? = some x) : x.p.a < q.a ↔ h < A.length := by
  rw [List.getElem?_append] at hx
  split at hx
  · rename_i hl
    exact ⟨fun _ => hl, fun _ => hA x (List.mem_of_getElem? hx)⟩
  · rename_i hl
    have := hB x (List.mem_of_getElem? hx)
    exact ⟨fun h => by omega, fun h => absurd h hl⟩
set_option maxHeartbeats 1000000 in
theorem bsearch_v (ao : Option Addr) (A B : List En) (c : Nat) (q : Pf) (w : World) (hL : Ens w ao (A ++ B)) (hA : ∀ e ∈ A, e.p.a < q.a) (hB : ∀ e ∈ B, q.a ≤ e.p.a) (hn : (A ++ B).length ≤ 1000000) :
    Calls Try.prog 67 #[.slice ao (A ++ B).length c, q.val, .func (.func 68) #[] #[]] w (Ret (.tuple #[.int .i64 A.length, .bool false]) w) := by
  have hsp := @split_at A B q hA hB
  have hAl : A.length ≤ (A ++ B).length := by rw [List.length_append]; omega
  generalize hLL : A ++ B = L at *
  refine V_enter (vs := [_, _, _]) Try.func67 rfl Try.ntmps67 (Nat.le_of_ble_eq_true rfl) ?_
  repeat (first | refine Vx ?_ | (apply Ops_q; (case hon => exact Va); (case hd => rfl); (case hq => exact YlA)) | refine Vr ?_ | refine Vt ?_ | refine Vf ?_ | refine Vm ?_ | refine Ve ?_ | refine Vo ?_ | refine Vz ?_ | refine Vn ?_)
  (refine Ops_box (by exact Va) rfl rfl rfl ?_; intro w1 b4 n_b4; have k_b4 := n_b4.blk)
  have x1 := n_b4.ext
  clear n_b4
  repeat (first | refine Vx ?_ | (apply Ops_q; (case hon => exact Va); (case hd => rfl); (case hq => exact YlA)) | refine Vr ?_ | refine Vt ?_ | refine Vf ?_ | refine Vm ?_ | refine Ve ?_ | refine Vo ?_ | refine Vz ?_ | refine Vn ?_)
  refine V_loop (fun s : Nat × Nat => [(9, .int .i64 s.1), (10, .int .i64 s.2), (8, .int .i64 L.length), (0, .slice ao L.length c), (2, .func (.func 68) #[] #[]), (4, .pointer (some ⟨b4, 0, none⟩))])
    (fun s w' => Ext w1 w' ∧ s.1 ≤ A.length ∧ A.length ≤ s.2 ∧ s.2 ≤ L.length) (fun s => s.2 - s.1) (0, L.length) (by repeat (first | exact trivial | refine ⟨rfl, ?_⟩)) ⟨Ext.refl _, Nat.zero_le _, hAl, Nat.le_refl _⟩ ?_
  rintro ⟨i, j⟩ w2 ⟨x2, hi, hj, hjl⟩
  dsimp only at hi hj hjl ⊢
  have kq := k_b4.ext x2
  repeat (first | refine Vx ?_ | (apply Ops_q; (case hon => exact Va); (case hd => rfl); (case hq => exact YlA)) | refine Vr ?_ | refine Vt ?_ | refine Vf ?_ | refine Vm ?_ | refine Ve ?_ | refine Vo ?_ | refine Vz ?_ | refine Vn ?_)
  refine V_cond rfl (fun hg => ?_) (fun hg => ?_)
  · replace hg := of_decide_eq_true hg
    obtain ⟨h, hh⟩ : ∃ h : Nat, h = (i + j) / 2 := ⟨_, rfl⟩
    have hhl : h < L.length := by omega
    have eh : ((i : Int) + (j : Int)) / 2 = (h : Int) := by rw [hh]; omega
    obtain ⟨x, hx⟩ : ∃ x, L[h]? = some x := ⟨_, List.getElem?_eq_getElem hhl⟩
    obtain ⟨ad, rfl, hc⟩ := hL.at hx
    have hc1 : Cells w2 (ad.add (h * 3)) [.int .u32 x.p.a, .int .i64 x.p.n, .int .i64 x.v] := (hc.ext x1).ext x2
    have hxa := hsp hx
    repeat (first | refine Vx ?_ | (apply Ops_q; (case hon => exact Va); (case hd => rfl); (case hq => exact YlA)) | refine Vr ?_ | refine Vt ?_ | refine Vf ?_ | refine Vm ?_ | refine Ve ?_ | refine Vo ?_ | refine Vz ?_ | refine Vn ?_)
    rw [eh]
    (apply Ops_q; (case hon => (exact Va)); (case hd => rfl); (case hq => exact Yl_indexS (j := h) rfl rfl (by omega)))
    repeat (first | refine Vx ?_ | (apply Ops_q; (case hon => exact Va); (case hd => rfl); (case hq => exact YlA)) | refine Vr ?_ | refine Vt ?_ | refine Vf ?_ | refine Vm ?_ | refine Ve ?_ | refine Vo ?_ | refine Vz ?_ | refine Vn ?_)
    (apply Ops_q; (case hon => (exact Va)); (case hd => rfl); (case hq => exact Yl_callv rfl rfl (fun w_ e_ => growCmp_v x q w_)))
    repeat (first | refine Vx ?_ | (apply Ops_q; (case hon => exact Va); (case hd => rfl); (case hq => exact YlA)) | refine Vr ?_ | refine Vt ?_ | refine Vf ?_ | refine Vm ?_ | refine Ve ?_ | refine Vo ?_ | refine Vz ?_ | refine Vn ?_)
    by_cases hlt : x.p.a < q.a
    · have hd : decide ((if x.p.a < q.a then (-1 : Int) else 1) < 0) = true := by rw [if_pos hlt]; rfl
      have hhA := hxa.1 hlt
      refine V_yes rfl hd ?_
      repeat (first | refine Vx ?_ | (apply Ops_q; (case hon => exact Va); (case hd => rfl); (case hq => exact YlA)) | refine Vr ?_ | refine Vt ?_ | refine Vf ?_ | refine Vm ?_ | refine Ve ?_ | refine Vo ?_ | refine Vz ?_ | refine Vn ?_)
      refine ⟨(h + 1, j), (by repeat (first | exact trivial | refine ⟨rfl, ?_⟩)), ⟨x2, hhA, hj, hjl⟩, by simp only; omega⟩
    · have hd : decide ((if x.p.a < q.a then (-1 : Int) else 1) < 0) = false := by rw [if_neg hlt]; rfl
      have hhA : ¬h < A.length := fun hc => hlt (hxa.2 hc)
      refine V_no rfl hd ?_
      repeat (first | refine Vx ?_ | (apply Ops_q; (case hon => exact Va); (case hd => rfl); (case hq => exact YlA)) | refine Vr ?_ | refine Vt ?_ | refine Vf ?_ | refine Vm ?_ | refine Ve ?_ | refine Vo ?_ | refine Vz ?_ | refine Vn ?_)
      refine ⟨(i, h), (by repeat (first | exact trivial | refine ⟨rfl, ?_⟩)), ⟨x2, hi, by dsimp only; omega, by dsimp only; omega⟩, by simp only; omega⟩
  · replace hg := of_decide_eq_false hg
    obtain rfl : i = A.length := by omega
    repeat (first | refine Vx ?_ | (apply Ops_q; (case hon => exact Va); (case hd => rfl); (case hq => exact YlA)) | refine Vr ?_ | refine Vt ?_ | refine Vf ?_ | refine Vm ?_ | refine Ve ?_ | refine Vo ?_ | refine Vz ?_ | refine Vn ?_)
    refine Ops_split rfl rfl (fun h2 => ?_) (fun h2 => ?_)
    · have hil : A.length < L.length := by have := of_decide_eq_true h2; omega
      clear h2
      obtain ⟨x, hx⟩ : ∃ x, L[A.length]? = some x := ⟨_, List.getElem?_eq_getElem hil⟩
      obtain ⟨ad, rfl, hc⟩ := hL.at hx
      have hc1 : Cells w2 (ad.add (A.length * 3)) [.int .u32 x.p.a, .int .i64 x.p.n, .int .i64 x.v] := (hc.ext x1).ext x2
      have hnot : ¬x.p.a < q.a := fun h => by have := (hsp hx).1 h; omega
      repeat (first | refine Vx ?_ | (apply Ops_q; (case hon => exact Va); (case hd => rfl); (case hq => exact YlA)) | refine Vr ?_ | refine Vt ?_ | refine Vf ?_ | refine Vm ?_ | refine Ve ?_ | refine Vo ?_ | refine Vz ?_ | refine Vn ?_)
      (apply Ops_q; (case hon => (exact Va)); (case hd => rfl); (case hq => exact Yl_indexS (j := A.length) rfl rfl (by omega)))
      repeat (first | refine Vx ?_ | (apply Ops_q; (case hon => exact Va); (case hd => rfl); (case hq => exact YlA)) | refine Vr ?_ | refine Vt ?_ | refine Vf ?_ | refine Vm ?_ | refine Ve ?_ | refine Vo ?_ | refine Vz ?_ | refine Vn ?_)
      (apply Ops_q; (case hon => (exact Va)); (case hd => rfl); (case hq => exact Yl_callv rfl rfl (fun w_ e_ => growCmp_v x q w_)))
      rw [if_neg hnot]
      repeat (first | refine Vx ?_ | (apply Ops_q; (case hon => exact Va); (case hd => rfl); (case hq => exact YlA)) | refine Vr ?_ | refine Vt ?_ | refine Vf ?_ | refine Vm ?_ | refine Ve ?_ | refine Vo ?_ | refine Vz ?_ | refine Vn ?_)
      refine ret2 (by first | exact .inl rfl | exact .inr rfl) rfl rfl rfl ?_
      exact Ret_mk rfl (x1.trans x2)
    · repeat (first | refine Vx ?_ | (apply Ops_q; (case hon => exact Va); (case hd => rfl); (case hq => exact YlA)) | refine Vr ?_ | refine Vt ?_ | refine Vf ?_ | refine Vm ?_ | refine Ve ?_ | refine Vo ?_ | refine Vz ?_ | refine Vn ?_)
      refine ret2 (by first | exact .inl rfl | exact .inr rfl) rfl rfl rfl ?_
      exact Ret_mk rfl (x1.trans x2)
/-! ### Sets -/
def setF (S : List Int) : Int → Option Value := fun y => if y ∈ S then some (.bool true) else none
theorem setF_nil : setF [] = fun _ => none := by funext y; unfold setF; rw [if_neg (fun h => nomatch h)]
theorem setF_add (S : List Int) (y : Int) : (fun y' => if y' = y then some (Value.bool true) else setF S y') = setF (S ++ [y]) := by
  funext y'
  unfold setF
  by_cases h : y' = y
  · rw [if_pos h, if_pos (by rw [h]; simp)]
  · rw [if_neg h]
    by_cases h2 : y' ∈ S
    · rw [if_pos h2, if_pos (by simp [h2])]
    · rw [if_neg h2, if_neg (by simp [h, h2])]
theorem setF_congr {S T : List Int} (h : ∀ y, y ∈ S ↔ y ∈ T) : setF S = setF T := by
  funext y
  unfold setF
  by_cases h2 : y ∈ S
  · rw [if_pos h2, if_pos ((h y).1 h2)]
  · rw [if_neg h2, if_neg (fun h3 => h2 ((h y).2 h3))]
/-- Block b is the set S. -/
def SetJ (w : World) (b : Nat) (S : List Int) : Prop := MapJ w b .i64 (setF S)
theorem SetJ.ext {w w' : World} {b : Nat} {S : List Int} (h : SetJ w b S) (he : Ext w w') : SetJ w' b S := MapJ.ext h he
theorem lookS {y : Int} {S : List Int} : (setF S y).getD (.bool false) = .bool (decide (y ∈ S)) := by
  unfold setF
  by_cases h : y ∈ S
  · rw [if_pos h, decide_eq_true h]; rfl
  · rw [if_neg h, decide_eq_false h]; rfl
section
variable {P : Program} {N : Fr} {m : Env} {w : World} {dst : Option Tmp} {ty : TypeId} {pos : String} {after : Array Edge} {g : Option (Nat × Bool)}
theorem Yl_inSet {t kt et : TypeId} {x i : Operand} {b : Nat} {y : Int} {S : List Int} {zs : List Value} [ht : TMap P t kt et] [hk : TInt P kt .i64] [hz : TZero P et (.bool false) zs]
    (hx : ev m x = some (.map (some b))) (hi : ev m i = some (.int .i64 y)) (hM : SetJ w b S) : Yl P N m w ⟨dst, .lookup t x i false, ty, pos, after, g⟩ (.bool (decide (y ∈ S))) := by
  have := Yl_lookup (P := P) (N := N) (dst := dst) (ty := ty) (pos := pos) (after := after) (g := g) (t := t) (kt := kt) (et := et) (z := .bool false) (zs := zs) hx hi hM.toI
  rw [lookS] at this; exact this
end
theorem leastL_of {S T : List Int} (h : ∀ y, y ∈ S ↔ y ∈ T) : leastL S = leastL T := by
  have hST : ∀ {A B : List Int}, (∀ y, y ∈ A ↔ y ∈ B) → A = [] → B = [] := fun h e => List.eq_nil_iff_forall_not_mem.2 fun y hy => by have := (h y).2 hy; rw [e] at this; cases this
  by_cases e : S = []
  · rw [e, hST h e]
  · have e2 : T ≠ [] := fun e2 => e (hST (fun y => (h y).symm) e2)
    have h1 := least_le ((h _).1 (least_mem e))
    have h2 := least_le ((h _).2 (least_mem e2))
    omega
theorem leastL_snoc (T : List Int) (y : Int) : leastL (T ++ [y]) = if T = [] then y else min (leastL T) y := by
  cases T with
  | nil => rfl
  | cons a r => rw [if_neg (by simp), List.cons_append, leastL, List.foldl_append]; rfl
theorem setF_some {S : List Int} {y : Int} {v : Value} (h : setF S y = some v) : y ∈ S ∧ v = .bool true := by
  unfold setF at h
  split at h
  · rename_i h2
    cases h; exact ⟨h2, rfl⟩
  · cases h
theorem setF_mem {S : List Int} {y : Int} (h : y ∈ S) : setF S y = some (.bool true) := by unfold setF; rw [if_pos h]
set_option maxHeartbeats 1000000 in
theorem least_v (b : Nat) (S : List Int) (w : World) (hS : SetJ w b S) : Calls Try.prog 65 #[.map (some b)] w (Ret (.int .i64 (leastL S)) w) := by
  refine V_enter (vs := [_]) Try.func65 rfl Try.ntmps65 (Nat.le_of_ble_eq_true rfl) ?_
  repeat (first | refine Vx ?_ | (apply Ops_q; (case hon => exact Va); (case hd => rfl); (case hq => exact YlA)) | refine Vr ?_ | refine Vt ?_ | refine Vf ?_ | refine Vm ?_ | refine Ve ?_ | refine Vo ?_ | refine Vz ?_ | refine Vn ?_)
  refine Ops_rangeJ (by exact Va) rfl rfl hS ?_
  intro w1 r cnt x1 hr hI
  repeat (first | refine Vx ?_ | (apply Ops_q; (case hon => exact Va); (case hd => rfl); (case hq => exact YlA)) | refine Vr ?_ | refine Vt ?_ | refine Vf ?_ | refine Vm ?_ | refine Ve ?_ | refine Vo ?_ | refine Vz ?_ | refine Vn ?_)
  refine V_loop (fun s : List Int × Nat => [(7, .pointer (some ⟨r, 0, none⟩)), (3, .bool (decide (s.1 = []))), (4, .int .i64 (leastL s.1))])
    (fun s w' => Ext w w' ∧ IterJ w' b r .i64 (setF S) s.1 s.2 ∧ ∀ y ∈ s.1, y ∈ S) (fun s => s.2) ([], cnt) (by repeat (first | exact trivial | refine ⟨rfl, ?_⟩)) ⟨x1, hI, fun y hy => nomatch hy⟩ ?_
  clear hI x1
  rintro ⟨T, cnt⟩ w2 ⟨x2, hI, hT⟩
  dsimp only at hI hT ⊢
  repeat (first | refine Vx ?_ | (apply Ops_q; (case hon => exact Va); (case hd => rfl); (case hq => exact YlA)) | refine Vr ?_ | refine Vt ?_ | refine Vf ?_ | refine Vm ?_ | refine Ve ?_ | refine Vo ?_ | refine Vz ?_ | refine Vn ?_)
  refine Ops_nextJ (by exact Va) rfl rfl hI (fun hall => ?_) (fun y v w3 cnt' hF hy hI3 hlt hg3 hE3 => ?_)
  · have hl : leastL T = leastL S := leastL_of fun y => ⟨hT y, fun h => hall y _ (setF_mem h)⟩
    repeat (first | refine Vx ?_ | (apply Ops_q; (case hon => exact Va); (case hd => rfl); (case hq => exact YlA)) | refine Vr ?_ | refine Vt ?_ | refine Vf ?_ | refine Vm ?_ | refine Ve ?_ | refine Vo ?_ | refine Vz ?_ | refine Vn ?_)
    refine ret1 (by first | exact .inl rfl | exact .inr rfl) rfl rfl ?_
    exact Ret_mk (by rw [hl]) x2
  · have x3 : Ext w w3 := Mod.ext_of x2 ((Mod.of_ext (S := fun c => c = r) (Ext.refl w2)).grow hg3 (fun b hb => .inl (by cases hb; rfl))) (fun c hc => by rw [hc]; exact hr)
    have hyS := (setF_some hF).1
    have hTy : ∀ z ∈ T ++ [y], z ∈ S := fun z hz => by
      rcases List.mem_append.1 hz with h | h
      · exact hT z h
      · rw [List.mem_singleton.1 h]; exact hyS
    have hsn := leastL_snoc T y
    have hne : decide (T ++ [y] = []) = false := decide_eq_false (by simp)
    repeat (first | refine Vx ?_ | (apply Ops_q; (case hon => exact Va); (case hd => rfl); (case hq => exact YlA)) | refine Vr ?_ | refine Vt ?_ | refine Vf ?_ | refine Vm ?_ | refine Ve ?_ | refine Vo ?_ | refine Vz ?_ | refine Vn ?_)
    (apply Ops_q; (case hon => (exact Va)); (case hd => rfl); (case hq => exact Yl_entryJ rfl (hE3)))
    repeat (first | refine Vx ?_ | (apply Ops_q; (case hon => exact Va); (case hd => rfl); (case hq => exact YlA)) | refine Vr ?_ | refine Vt ?_ | refine Vf ?_ | refine Vm ?_ | refine Ve ?_ | refine Vo ?_ | refine Vz ?_ | refine Vn ?_)
    refine Ops_meet [(17, .bool (decide (T = [] ∨ y < leastL T))), (5, .int .i64 y), (7, .pointer (some ⟨r, 0, none⟩)), (3, .bool (decide (T = []))), (4, .int .i64 (leastL T))] ?_ ?_
    · refine Ops_split rfl rfl (fun h1 => ?_) (fun h1 => ?_)
      · have h1' := of_decide_eq_true h1
        repeat (first | refine Vx ?_ | (apply Ops_q; (case hon => exact Va); (case hd => rfl); (case hq => exact YlA)) | refine Vr ?_ | refine Vt ?_ | refine Vf ?_ | refine Vm ?_ | refine Ve ?_ | refine Vo ?_ | refine Vz ?_ | refine Vn ?_)
        refine ⟨⟨?_, (by repeat (first | exact trivial | refine ⟨rfl, ?_⟩))⟩, rfl⟩
        exact congrArg (fun b => some (Value.bool b)) (decide_eq_true (.inl h1')).symm
      · have h1' := of_decide_eq_false h1
        repeat (first | refine Vx ?_ | (apply Ops_q; (case hon => exact Va); (case hd => rfl); (case hq => exact YlA)) | refine Vr ?_ | refine Vt ?_ | refine Vf ?_ | refine Vm ?_ | refine Ve ?_ | refine Vo ?_ | refine Vz ?_ | refine Vn ?_)
        refine ⟨⟨?_, (by repeat (first | exact trivial | refine ⟨rfl, ?_⟩))⟩, rfl⟩
        refine congrArg (fun b => some (Value.bool b)) (decide_eq_decide.2 ⟨.inr, fun h => h.elim (fun h => absurd h h1') id⟩)
    repeat (first | refine Vx ?_ | (apply Ops_q; (case hon => exact Va); (case hd => rfl); (case hq => exact YlA)) | refine Vr ?_ | refine Vt ?_ | refine Vf ?_ | refine Vm ?_ | refine Ve ?_ | refine Vo ?_ | refine Vz ?_ | refine Vn ?_)
    refine V_cond rfl (fun h2 => ?_) (fun h2 => ?_)
    · have h2' := of_decide_eq_true h2
      have hv : leastL (T ++ [y]) = y := by
        rw [hsn]; split
        · rfl
        · have := h2'.elim (fun h => absurd h (by assumption)) id
          omega
      repeat (first | refine Vx ?_ | (apply Ops_q; (case hon => exact Va); (case hd => rfl); (case hq => exact YlA)) | refine Vr ?_ | refine Vt ?_ | refine Vf ?_ | refine Vm ?_ | refine Ve ?_ | refine Vo ?_ | refine Vz ?_ | refine Vn ?_)
      refine ⟨(T ++ [y], cnt'), ?_, ⟨x3, hI3, hTy⟩, hlt⟩
      dsimp only
      rw [hne, hv]
      exact (by repeat (first | exact trivial | refine ⟨rfl, ?_⟩))
    · have h2' := of_decide_eq_false h2
      have hT0 : T ≠ [] := fun h => h2' (.inl h)
      have hv : leastL (T ++ [y]) = leastL T := by
        rw [hsn, if_neg hT0]
        have : ¬y < leastL T := fun h => h2' (.inr h)
        omega
      have hd : decide (T = []) = false := decide_eq_false hT0
      repeat (first | refine Vx ?_ | (apply Ops_q; (case hon => exact Va); (case hd => rfl); (case hq => exact YlA)) | refine Vr ?_ | refine Vt ?_ | refine Vf ?_ | refine Vm ?_ | refine Ve ?_ | refine Vo ?_ | refine Vz ?_ | refine Vn ?_)
      refine ⟨(T ++ [y], cnt'), ?_, ⟨x3, hI3, hTy⟩, hlt⟩
      dsimp only
      rw [hne, hv, ← hd]
      exact (by repeat (first | exact trivial | refine ⟨rfl, ?_⟩))
/-- What joined returns. -/
def JoinR (w : World) (S : List Int) (r : Value) (w' : World) : Prop := ∃ b, r = .map (some b) ∧ SetJ w' b S ∧ w.heap.size ≤ b
set_option maxHeartbeats 2000000 in
theorem joined_v (a b : Nat) (A B : List Int) (w : World) (hA : SetJ w a A) (hB : SetJ w b B) : Calls Try.prog 69 #[.map (some a), .map (some b)] w (Gives (JoinR w (joinL A B)) w) := by
  have hal := hA.lt
  have hbl := hB.lt
  refine V_enter (vs := [_, _]) Try.func69 rfl Try.ntmps69 (Nat.le_of_ble_eq_true rfl) ?_
  repeat (first | refine Vx ?_ | (apply Ops_q; (case hon => exact Va); (case hd => rfl); (case hq => exact YlA)) | refine Vr ?_ | refine Vt ?_ | refine Vf ?_ | refine Vm ?_ | refine Ve ?_ | refine Vo ?_ | refine Vz ?_ | refine Vn ?_)
  refine Ops_makeMapJ (k := .i64) (by exact Va) rfl ?_
  intro w1 bo x1 hbo hbo1
  repeat (first | refine Vx ?_ | (apply Ops_q; (case hon => exact Va); (case hd => rfl); (case hq => exact YlA)) | refine Vr ?_ | refine Vt ?_ | refine Vf ?_ | refine Vm ?_ | refine Ve ?_ | refine Vo ?_ | refine Vz ?_ | refine Vn ?_)
  refine Ops_makeMapJ (k := .i64) (by exact Va) rfl ?_
  intro w2 al x2 hal2 hal1
  have hne : al ≠ bo := fun e => by have := hbo1.lt; omega
  replace hbo1 := hbo1.ext x2
  rw [← setF_nil] at hbo1 hal1
  have x12 := x1.trans x2
  have hge : w.heap.size ≤ al := Nat.le_trans x1.size hal2
  repeat (first | refine Vx ?_ | (apply Ops_q; (case hon => exact Va); (case hd => rfl); (case hq => exact YlA)) | refine Vr ?_ | refine Vt ?_ | refine Vf ?_ | refine Vm ?_ | refine Ve ?_ | refine Vo ?_ | refine Vz ?_ | refine Vn ?_)
  refine Ops_rangeJ (by exact Va) rfl rfl (hA.ext x12) ?_
  intro w3 r cnt x3 hr hI
  have hrw : w.heap.size ≤ r := Nat.le_trans x12.size hr
  have hrbo : r ≠ bo := fun e => by have := hbo1.lt; omega
  have hral : r ≠ al := fun e => by have := hal1.lt; omega
  have hano : a ≠ bo ∧ a ≠ al := ⟨by omega, by omega⟩
  have hbno : b ≠ bo ∧ b ≠ al := ⟨by omega, by omega⟩
  replace hbo1 := hbo1.ext x3
  replace hal1 := hal1.ext x3
  replace x3 := x12.trans x3
  clear x12 x1 x2 hr hal2
  repeat (first | refine Vx ?_ | (apply Ops_q; (case hon => exact Va); (case hd => rfl); (case hq => exact YlA)) | refine Vr ?_ | refine Vt ?_ | refine Vf ?_ | refine Vm ?_ | refine Ve ?_ | refine Vo ?_ | refine Vz ?_ | refine Vn ?_)
  refine V_loop (fun s : List Int × Nat => [(12, .pointer (some ⟨r, 0, none⟩)), (5, .map (some bo)), (6, .map (some al)), (1, .map (some b))])
    (fun s w' => Ext w w' ∧ IterJ w' a r .i64 (setF A) s.1 s.2 ∧ SetJ w' al s.1 ∧ SetJ w' bo (bothL s.1 B) ∧ ∀ y ∈ s.1, y ∈ A) (fun s => s.2) ([], cnt) (by repeat (first | exact trivial | refine ⟨rfl, ?_⟩)) ⟨x3, hI, hal1, hbo1, fun y hy => nomatch hy⟩ ?_
  clear hI hal1 hbo1 x3
  rintro ⟨T, cnt⟩ w4 ⟨x4, hI, hal1, hbo1, hT⟩
  dsimp only at hI hT hal1 hbo1 ⊢
  repeat (first | refine Vx ?_ | (apply Ops_q; (case hon => exact Va); (case hd => rfl); (case hq => exact YlA)) | refine Vr ?_ | refine Vt ?_ | refine Vf ?_ | refine Vm ?_ | refine Ve ?_ | refine Vo ?_ | refine Vz ?_ | refine Vn ?_)
  refine Ops_nextJ (by exact Va) rfl rfl hI (fun hall => ?_) (fun y v w5 cnt' hF hy hI5 hlt hg5 hE5 => ?_)
  · have hTA : ∀ y, y ∈ T ↔ y ∈ A := fun y => ⟨hT y, fun h => hall y _ (setF_mem h)⟩
    have hbm : ∀ y, y ∈ bothL T B ↔ y ∈ bothL A B := fun y => by unfold bothL; rw [List.mem_filter, List.mem_filter, hTA]
    have hbo2 : SetJ w4 bo (bothL A B) := by unfold SetJ; rw [← setF_congr hbm]; exact hbo1
    clear hI hall
    repeat (first | refine Vx ?_ | (apply Ops_q; (case hon => exact Va); (case hd => rfl); (case hq => exact YlA)) | refine Vr ?_ | refine Vt ?_ | refine Vf ?_ | refine Vm ?_ | refine Ve ?_ | refine Vo ?_ | refine Vz ?_ | refine Vn ?_)
    refine Ops_lenJ (by exact Va) rfl rfl hbo2 fun n hn => ?_
    have hn' : n = 0 ↔ bothL A B = [] := hn.trans ⟨(fun h => List.eq_nil_iff_forall_not_mem.2 fun y hy => by have := h y; rw [setF_mem hy] at this; cases this), (fun h y => by rw [h, setF_nil])⟩
    repeat (first | refine Vx ?_ | (apply Ops_q; (case hon => exact Va); (case hd => rfl); (case hq => exact YlA)) | refine Vr ?_ | refine Vt ?_ | refine Vf ?_ | refine Vm ?_ | refine Ve ?_ | refine Vo ?_ | refine Vz ?_ | refine Vn ?_)
    refine V_cond rfl (fun hc => ?_) (fun hc => ?_)
    · have hc' : bothL A B ≠ [] := fun e => by have := of_decide_eq_true hc; have := hn'.2 e; omega
      clear hc
      repeat (first | refine Vx ?_ | (apply Ops_q; (case hon => exact Va); (case hd => rfl); (case hq => exact YlA)) | refine Vr ?_ | refine Vt ?_ | refine Vf ?_ | refine Vm ?_ | refine Ve ?_ | refine Vo ?_ | refine Vz ?_ | refine Vn ?_)
      refine ret1 (by first | exact .inl rfl | exact .inr rfl) rfl rfl ?_
      exact Gives_mk (fun w' he => ⟨bo, rfl, by rw [joinL, if_neg hc']; exact hbo2.ext he, hbo⟩) x4
    · have hc' : bothL A B = [] := hn'.1 (by have := of_decide_eq_false hc; omega)
      clear hc hn hn'
      repeat (first | refine Vx ?_ | (apply Ops_q; (case hon => exact Va); (case hd => rfl); (case hq => exact YlA)) | refine Vr ?_ | refine Vt ?_ | refine Vf ?_ | refine Vm ?_ | refine Ve ?_ | refine Vo ?_ | refine Vz ?_ | refine Vn ?_)
      refine Ops_rangeJ (by exact Va) rfl rfl (hB.ext x4) ?_
      intro w5 r2 cnt2 x5 hr2 hI2
      have hr2w : w.heap.size ≤ r2 := Nat.le_trans x4.size hr2
      have hr2al : r2 ≠ al := fun e => by have := hal1.lt; omega
      have hal5 : SetJ w5 al (A ++ []) := by
        rw [List.append_nil]
        unfold SetJ; rw [← setF_congr hTA]; exact hal1.ext x5
      replace x5 := x4.trans x5
      clear hal1 hr2 hTA hbm hbo1 hT
      repeat (first | refine Vx ?_ | (apply Ops_q; (case hon => exact Va); (case hd => rfl); (case hq => exact YlA)) | refine Vr ?_ | refine Vt ?_ | refine Vf ?_ | refine Vm ?_ | refine Ve ?_ | refine Vo ?_ | refine Vz ?_ | refine Vn ?_)
      refine V_loop (fun s : List Int × Nat => [(29, .pointer (some ⟨r2, 0, none⟩)), (6, .map (some al))])
        (fun s w' => Ext w w' ∧ IterJ w' b r2 .i64 (setF B) s.1 s.2 ∧ SetJ w' al (A ++ s.1) ∧ ∀ y ∈ s.1, y ∈ B) (fun s => s.2) ([], cnt2) (by repeat (first | exact trivial | refine ⟨rfl, ?_⟩)) ⟨x5, hI2, hal5, fun y hy => nomatch hy⟩ ?_
      clear hI2 hal5 x5
      rintro ⟨T, cnt⟩ w6 ⟨x6, hI, hal1, hT⟩
      dsimp only at hI hT hal1 ⊢
      repeat (first | refine Vx ?_ | (apply Ops_q; (case hon => exact Va); (case hd => rfl); (case hq => exact YlA)) | refine Vr ?_ | refine Vt ?_ | refine Vf ?_ | refine Vm ?_ | refine Ve ?_ | refine Vo ?_ | refine Vz ?_ | refine Vn ?_)
      refine Ops_nextJ (by exact Va) rfl rfl hI (fun hall => ?_) (fun y v w7 cnt' hF hy hI7 hlt hg7 hE7 => ?_)
      · have hall2 : ∀ y, y ∈ A ++ T ↔ y ∈ A ++ B := fun y => by
          rw [List.mem_append, List.mem_append]
          exact or_congr Iff.rfl ⟨hT y, fun h => hall y _ (setF_mem h)⟩
        have hal2 : SetJ w6 al (joinL A B) := by rw [joinL, if_pos hc']; unfold SetJ; rw [← setF_congr hall2]; exact hal1
        repeat (first | refine Vx ?_ | (apply Ops_q; (case hon => exact Va); (case hd => rfl); (case hq => exact YlA)) | refine Vr ?_ | refine Vt ?_ | refine Vf ?_ | refine Vm ?_ | refine Ve ?_ | refine Vo ?_ | refine Vz ?_ | refine Vn ?_)
        refine ret1 (by first | exact .inl rfl | exact .inr rfl) rfl rfl ?_
        exact Gives_mk (fun w' he => ⟨al, rfl, hal2.ext he, hge⟩) x6
      · have x7 : Ext w w7 := Mod.ext_of x6 ((Mod.of_ext (S := fun c => c = r2) (Ext.refl w6)).grow hg7 (fun b hb => .inl (by cases hb; rfl))) (fun c hc => by rw [hc]; exact hr2w)
        have hyB := (setF_some hF).1
        have hal7 := hal1.grow hg7 (fun e => hr2al (by cases e; rfl))
        have hTy : ∀ z ∈ T ++ [y], z ∈ B := fun z hz => by
          rcases List.mem_append.1 hz with h | h
          · exact hT z h
          · rw [List.mem_singleton.1 h]; exact hyB
        clear hF hI hal1 hT
        repeat (first | refine Vx ?_ | (apply Ops_q; (case hon => exact Va); (case hd => rfl); (case hq => exact YlA)) | refine Vr ?_ | refine Vt ?_ | refine Vf ?_ | refine Vm ?_ | refine Ve ?_ | refine Vo ?_ | refine Vz ?_ | refine Vn ?_)
        (apply Ops_q; (case hon => (exact Va)); (case hd => rfl); (case hq => exact Yl_entryJ rfl (hE7)))
        repeat (first | refine Vx ?_ | (apply Ops_q; (case hon => exact Va); (case hd => rfl); (case hq => exact YlA)) | refine Vr ?_ | refine Vt ?_ | refine Vf ?_ | refine Vm ?_ | refine Ve ?_ | refine Vo ?_ | refine Vz ?_ | refine Vn ?_)
        refine Ops_updateJ (v := .bool true) (by exact Va) rfl rfl rfl hal7 ?_
        intro w8 g8 hal8
        rw [setF_add, List.append_assoc] at hal8
        have hI8 := hI7.grow g8 (fun e => hbno.2 (by cases e; rfl)) (fun e => hr2al (by cases e; rfl))
        have x8 : Ext w w8 := Mod.ext_of x7 ((Mod.of_ext (S := fun c => c = al) (Ext.refl w7)).grow g8 (fun b hb => .inl (by cases hb; rfl))) (fun c hc => by rw [hc]; exact hge)
        repeat (first | refine Vx ?_ | (apply Ops_q; (case hon => exact Va); (case hd => rfl); (case hq => exact YlA)) | refine Vr ?_ | refine Vt ?_ | refine Vf ?_ | refine Vm ?_ | refine Ve ?_ | refine Vo ?_ | refine Vz ?_ | refine Vn ?_)
        exact ⟨(T ++ [y], cnt'), (by repeat (first | exact trivial | refine ⟨rfl, ?_⟩)), ⟨x8, hI8, hal8, hTy⟩, hlt⟩
  · have x5 : Ext w w5 := Mod.ext_of x4 ((Mod.of_ext (S := fun c => c = r) (Ext.refl w4)).grow hg5 (fun b hb => .inl (by cases hb; rfl))) (fun c hc => by rw [hc]; exact hrw)
    have hyA := (setF_some hF).1
    have hal5 := hal1.grow hg5 (fun e => hral (by cases e; rfl))
    have hbo5 := hbo1.grow hg5 (fun e => hrbo (by cases e; rfl))
    have hTy : ∀ z ∈ T ++ [y], z ∈ A := fun z hz => by
      rcases List.mem_append.1 hz with h | h
      · exact hT z h
      · rw [List.mem_singleton.1 h]; exact hyA
    have hbsn : bothL (T ++ [y]) B = bothL T B ++ if y ∈ B then [y] else [] := by
      unfold bothL
      rw [List.filter_append]
      congr 1
      by_cases h : y ∈ B
      · rw [if_pos h, List.filter_cons_of_pos (by simpa using h)]; rfl
      · rw [if_neg h, List.filter_cons_of_neg (by simpa using h)]; rfl
    clear hF hI hal1 hbo1 hT
    repeat (first | refine Vx ?_ | (apply Ops_q; (case hon => exact Va); (case hd => rfl); (case hq => exact YlA)) | refine Vr ?_ | refine Vt ?_ | refine Vf ?_ | refine Vm ?_ | refine Ve ?_ | refine Vo ?_ | refine Vz ?_ | refine Vn ?_)
    (apply Ops_q; (case hon => (exact Va)); (case hd => rfl); (case hq => exact Yl_entryJ rfl (hE5)))
    repeat (first | refine Vx ?_ | (apply Ops_q; (case hon => exact Va); (case hd => rfl); (case hq => exact YlA)) | refine Vr ?_ | refine Vt ?_ | refine Vf ?_ | refine Vm ?_ | refine Ve ?_ | refine Vo ?_ | refine Vz ?_ | refine Vn ?_)
    refine Ops_updateJ (v := .bool true) (by exact Va) rfl rfl rfl hal5 ?_
    intro w6 g6 hal6
    rw [setF_add] at hal6
    have hI6 := hI5.grow g6 (fun e => hano.2 (by cases e; rfl)) (fun e => hral (by cases e; rfl))
    have hbo6 := hbo5.grow g6 (fun e => hne (by cases e; rfl))
    have x6 : Ext w w6 := Mod.ext_of x5 ((Mod.of_ext (S := fun c => c = al) (Ext.refl w5)).grow g6 (fun b hb => .inl (by cases hb; rfl))) (fun c hc => by rw [hc]; exact hge)
    have hB6 := hB.ext x6
    clear hI5 hbo5 hal5 hE5
    repeat (first | refine Vx ?_ | (apply Ops_q; (case hon => exact Va); (case hd => rfl); (case hq => exact YlA)) | refine Vr ?_ | refine Vt ?_ | refine Vf ?_ | refine Vm ?_ | refine Ve ?_ | refine Vo ?_ | refine Vz ?_ | refine Vn ?_)
    (apply Ops_q; (case hon => (exact Va)); (case hd => rfl); (case hq => exact Yl_inSet rfl rfl (hB6)))
    repeat (first | refine Vx ?_ | (apply Ops_q; (case hon => exact Va); (case hd => rfl); (case hq => exact YlA)) | refine Vr ?_ | refine Vt ?_ | refine Vf ?_ | refine Vm ?_ | refine Ve ?_ | refine Vo ?_ | refine Vz ?_ | refine Vn ?_)
    refine V_cond rfl (fun hc => ?_) (fun hc => ?_)
    · have hyB := of_decide_eq_true hc
      rw [if_pos hyB] at hbsn
      repeat (first | refine Vx ?_ | (apply Ops_q; (case hon => exact Va); (case hd => rfl); (case hq => exact YlA)) | refine Vr ?_ | refine Vt ?_ | refine Vf ?_ | refine Vm ?_ | refine Ve ?_ | refine Vo ?_ | refine Vz ?_ | refine Vn ?_)
      refine Ops_updateJ (v := .bool true) (by exact Va) rfl rfl rfl hbo6 ?_
      intro w7 g7 hbo7
      rw [setF_add, ← hbsn] at hbo7
      have hI7 := hI6.grow g7 (fun e => hano.1 (by cases e; rfl)) (fun e => hrbo (by cases e; rfl))
      have hal7 := MapJ.grow hal6 g7 (fun e => hne (by cases e; rfl))
      have x7 : Ext w w7 := Mod.ext_of x6 ((Mod.of_ext (S := fun c => c = bo) (Ext.refl w6)).grow g7 (fun b hb => .inl (by cases hb; rfl))) (fun c hc => by rw [hc]; exact hbo)
      repeat (first | refine Vx ?_ | (apply Ops_q; (case hon => exact Va); (case hd => rfl); (case hq => exact YlA)) | refine Vr ?_ | refine Vt ?_ | refine Vf ?_ | refine Vm ?_ | refine Ve ?_ | refine Vo ?_ | refine Vz ?_ | refine Vn ?_)
      exact ⟨(T ++ [y], cnt'), (by repeat (first | exact trivial | refine ⟨rfl, ?_⟩)), ⟨x7, hI7, hal7, hbo7, hTy⟩, hlt⟩
    · have hyB := of_decide_eq_false hc
      rw [if_neg hyB, List.append_nil] at hbsn
      repeat (first | refine Vx ?_ | (apply Ops_q; (case hon => exact Va); (case hd => rfl); (case hq => exact YlA)) | refine Vr ?_ | refine Vt ?_ | refine Vf ?_ | refine Vm ?_ | refine Ve ?_ | refine Vo ?_ | refine Vz ?_ | refine Vn ?_)
      exact ⟨(T ++ [y], cnt'), (by repeat (first | exact trivial | refine ⟨rfl, ?_⟩)), ⟨x6, hI6, hal6, by dsimp only; rw [hbsn]; exact hbo6, hTy⟩, hlt⟩
end Go.Proofs.Ytjpnaofoeeegeaa


/-
  Stable sorting with a function that compares: the walks of stable and SortStableFunc.
  Conditions: the list is one's own, and not too long for a machine.
-/
import Derived.Test.YtfakgiikobajnaaSortM
namespace Go.Proofs.Ytfakgiikobajnaa
open Go.RowKit

section
variable {base g n cap : Nat} {f : FuncId} [TFun Try.prog f] {cf : Nb → Nb → Int}
set_option maxHeartbeats 2000000 in
theorem stable_v (ho : Ord cf) (hcf : ∀ x y w', Calls Try.prog f #[x.val, y.val] w' (Ret (.int .i64 (cf x y)) w')) (hn : n ≤ 1000000000000) (L : List Nb) (w : World) (hD : Dat w base g n cap L) :
    Calls Try.prog 42 #[.slice (some ⟨g, 0, none⟩) n cap, .int .i64 n, .func (.func f) #[] #[]] w
      (Does (Blk1 g) (DatR base g n cap (fun L' => L'.Perm L ∧ Asc cf L' 0 n)) w) := by
  refine V_enter (vs := [_, _, _]) Try.func42 rfl Try.ntmps42 (Nat.le_of_ble_eq_true rfl) ?_
  repeat (first | (apply Ops_q; (case hon => (first | exact on_none | exact on_guard rfl rfl)); (case hd => rfl); (case hq => exact YlA)) | refine V_seq ?_ | refine V_block ?_ | refine V_region ?_ | refine V_region_still rfl (by kernel_rfl) (by kernel_rfl) ?_ | refine V_skip ?_ | refine V_ret ?_ | refine V_exit ?_ | refine V_true rfl ?_ | refine V_false rfl ?_ | refine then_normal ?_ | refine then_ret ?_ | refine then_exit ?_ | refine block_normal ?_ | refine block_ret ?_ | refine block_hit ?_ | refine block_miss rfl ?_ | refine Ops_end rfl ?_ | (refine Ops_off ?_ rfl ?_; focus (first | exact off_guard rfl rfl rfl | exact off_undef rfl rfl)) | (apply Ops_q0; (case hon => exact on_none); (case hq => exact Yl_assign rfl)))
  refine V_loop (fun s : Nat × List Nb => [(7, .int .i64 s.1), (8, .int .i64 ((s.1 : Int) + 20)), (6, .int .i64 20), (0, .slice (some ⟨g, 0, none⟩) n cap), (1, .int .i64 n), (2, .func (.func f) #[] #[])])
    (fun s w' => s.1 ≤ n ∧ (∃ q, s.1 = q * 20 ∧ FirstB cf s.2 20 q) ∧ Mod (Blk1 g) w w' ∧ Dat w' base g n cap s.2 ∧ s.2.Perm L) (fun s => n - s.1) (0, L) (by repeat (first | exact trivial | refine ⟨rfl, ?_⟩))
    ⟨Nat.zero_le _, ⟨0, rfl, fun q hq => absurd hq (Nat.not_lt_zero _)⟩, .of_ext (Ext.refl _), hD, .refl _⟩ ?_
  rintro ⟨a, M⟩ w1 ⟨h1, ⟨q, hq, hF⟩, m1, D1, hp⟩
  dsimp only at h1 hq hF D1 hp ⊢
  repeat (first | (apply Ops_q; (case hon => (first | exact on_none | exact on_guard rfl rfl)); (case hd => rfl); (case hq => exact YlA)) | refine V_seq ?_ | refine V_block ?_ | refine V_region ?_ | refine V_region_still rfl (by kernel_rfl) (by kernel_rfl) ?_ | refine V_skip ?_ | refine V_ret ?_ | refine V_exit ?_ | refine V_true rfl ?_ | refine V_false rfl ?_ | refine then_normal ?_ | refine then_ret ?_ | refine then_exit ?_ | refine block_normal ?_ | refine block_ret ?_ | refine block_hit ?_ | refine block_miss rfl ?_ | refine Ops_end rfl ?_ | (refine Ops_off ?_ rfl ?_; focus (first | exact off_guard rfl rfl rfl | exact off_undef rfl rfl)) | (apply Ops_q0; (case hon => exact on_none); (case hq => exact Yl_assign rfl)))
  refine V_cond rfl (fun hg => ?_) (fun hg => ?_)
  · replace hg := of_decide_eq_true hg
    have ha : a + 20 ≤ n := by omega
    repeat (first | (apply Ops_q; (case hon => (first | exact on_none | exact on_guard rfl rfl)); (case hd => rfl); (case hq => exact YlA)) | refine V_seq ?_ | refine V_block ?_ | refine V_region ?_ | refine V_region_still rfl (by kernel_rfl) (by kernel_rfl) ?_ | refine V_skip ?_ | refine V_ret ?_ | refine V_exit ?_ | refine V_true rfl ?_ | refine V_false rfl ?_ | refine then_normal ?_ | refine then_ret ?_ | refine then_exit ?_ | refine block_normal ?_ | refine block_ret ?_ | refine block_hit ?_ | refine block_miss rfl ?_ | refine Ops_end rfl ?_ | (refine Ops_off ?_ rfl ?_; focus (first | exact off_guard rfl rfl rfl | exact off_undef rfl rfl)) | (apply Ops_q0; (case hon => exact on_none); (case hq => exact Yl_assign rfl)))
    refine Ops_callM (S := Blk1 g) (R := fun _ => DatR base g n cap (fun L' => Moved M L' a (a + 20) ∧ Asc cf L' a (a + 20))) (by first | exact on_none | exact on_guard rfl rfl) rfl rfl (fun w_ e_ => insertionSort_v ho hcf M a (a + 20) w_ (D1.ext e_) hn ha h1) ?_
    intro r w2 w0_ e0 m2 hR
    obtain ⟨rfl, M', D2, hp2, hA2⟩ := hR
    repeat (first | (apply Ops_q; (case hon => (first | exact on_none | exact on_guard rfl rfl)); (case hd => rfl); (case hq => exact YlA)) | refine V_seq ?_ | refine V_block ?_ | refine V_region ?_ | refine V_region_still rfl (by kernel_rfl) (by kernel_rfl) ?_ | refine V_skip ?_ | refine V_ret ?_ | refine V_exit ?_ | refine V_true rfl ?_ | refine V_false rfl ?_ | refine then_normal ?_ | refine then_ret ?_ | refine then_exit ?_ | refine block_normal ?_ | refine block_ret ?_ | refine block_hit ?_ | refine block_miss rfl ?_ | refine Ops_end rfl ?_ | (refine Ops_off ?_ rfl ?_; focus (first | exact off_guard rfl rfl rfl | exact off_undef rfl rfl)) | (apply Ops_q0; (case hon => exact on_none); (case hq => exact Yl_assign rfl)))
    refine ⟨(a + 20, M'), (by repeat (first | exact trivial | refine ⟨rfl, ?_⟩)), ⟨ha, ⟨q + 1, by dsimp only; omega, ?_⟩, (m1.ext e0).trans m2, D2, hp2.perm.trans hp⟩, by simp only; omega⟩
    subst hq
    exact hF.step hp2 hA2
  replace hg := of_decide_eq_false hg
  repeat (first | (apply Ops_q; (case hon => (first | exact on_none | exact on_guard rfl rfl)); (case hd => rfl); (case hq => exact YlA)) | refine V_seq ?_ | refine V_block ?_ | refine V_region ?_ | refine V_region_still rfl (by kernel_rfl) (by kernel_rfl) ?_ | refine V_skip ?_ | refine V_ret ?_ | refine V_exit ?_ | refine V_true rfl ?_ | refine V_false rfl ?_ | refine then_normal ?_ | refine then_ret ?_ | refine then_exit ?_ | refine block_normal ?_ | refine block_ret ?_ | refine block_hit ?_ | refine block_miss rfl ?_ | refine Ops_end rfl ?_ | (refine Ops_off ?_ rfl ?_; focus (first | exact off_guard rfl rfl rfl | exact off_undef rfl rfl)) | (apply Ops_q0; (case hon => exact on_none); (case hq => exact Yl_assign rfl)))
  refine Ops_callM (S := Blk1 g) (R := fun _ => DatR base g n cap (fun L' => Moved M L' a n ∧ Asc cf L' a n)) (by first | exact on_none | exact on_guard rfl rfl) rfl rfl (fun w_ e_ => insertionSort_v ho hcf M a n w_ (D1.ext e_) hn (Nat.le_refl _) h1) ?_
  intro r w2 w0_ e0 m2 hR
  obtain ⟨rfl, M2, D2, hp2, hA2⟩ := hR
  have hB2 : Blocks cf M2 n 20 := by
    subst hq
    exact hF.done (by omega) hp2 hA2
  have hp2' := hp2.perm.trans hp
  have m02 := (m1.ext e0).trans m2
  clear hF hA2 hp2 D1 m1 hp m2 e0 hg hq
  repeat (first | (apply Ops_q; (case hon => (first | exact on_none | exact on_guard rfl rfl)); (case hd => rfl); (case hq => exact YlA)) | refine V_seq ?_ | refine V_block ?_ | refine V_region ?_ | refine V_region_still rfl (by kernel_rfl) (by kernel_rfl) ?_ | refine V_skip ?_ | refine V_ret ?_ | refine V_exit ?_ | refine V_true rfl ?_ | refine V_false rfl ?_ | refine then_normal ?_ | refine then_ret ?_ | refine then_exit ?_ | refine block_normal ?_ | refine block_ret ?_ | refine block_hit ?_ | refine block_miss rfl ?_ | refine Ops_end rfl ?_ | (refine Ops_off ?_ rfl ?_; focus (first | exact off_guard rfl rfl rfl | exact off_undef rfl rfl)) | (apply Ops_q0; (case hon => exact on_none); (case hq => exact Yl_assign rfl)))
  refine V_loop (fun s : Nat × List Nb => [(6, .int .i64 s.1), (0, .slice (some ⟨g, 0, none⟩) n cap), (1, .int .i64 n), (2, .func (.func f) #[] #[])])
    (fun s w' => 0 < s.1 ∧ s.1 ≤ 2 * n + 20 ∧ Blocks cf s.2 n s.1 ∧ Mod (Blk1 g) w w' ∧ Dat w' base g n cap s.2 ∧ s.2.Perm L) (fun s => n - s.1) (20, M2) (by repeat (first | exact trivial | refine ⟨rfl, ?_⟩))
    ⟨Nat.succ_pos _, by dsimp only; omega, hB2, m02, D2, hp2'⟩ ?_
  clear hB2 hp2' m02 D2
  rintro ⟨s, M⟩ w3 ⟨h2, h3, hB, m3, D3, hp3⟩
  dsimp only at h2 h3 hB D3 hp3 ⊢
  repeat (first | (apply Ops_q; (case hon => (first | exact on_none | exact on_guard rfl rfl)); (case hd => rfl); (case hq => exact YlA)) | refine V_seq ?_ | refine V_block ?_ | refine V_region ?_ | refine V_region_still rfl (by kernel_rfl) (by kernel_rfl) ?_ | refine V_skip ?_ | refine V_ret ?_ | refine V_exit ?_ | refine V_true rfl ?_ | refine V_false rfl ?_ | refine then_normal ?_ | refine then_ret ?_ | refine then_exit ?_ | refine block_normal ?_ | refine block_ret ?_ | refine block_hit ?_ | refine block_miss rfl ?_ | refine Ops_end rfl ?_ | (refine Ops_off ?_ rfl ?_; focus (first | exact off_guard rfl rfl rfl | exact off_undef rfl rfl)) | (apply Ops_q0; (case hon => exact on_none); (case hq => exact Yl_assign rfl)))
  refine V_cond rfl (fun hg => ?_) (fun hg => ?_)
  · replace hg := of_decide_eq_true hg
    have hsn : s < n := by omega
    repeat (first | (apply Ops_q; (case hon => (first | exact on_none | exact on_guard rfl rfl)); (case hd => rfl); (case hq => exact YlA)) | refine V_seq ?_ | refine V_block ?_ | refine V_region ?_ | refine V_region_still rfl (by kernel_rfl) (by kernel_rfl) ?_ | refine V_skip ?_ | refine V_ret ?_ | refine V_exit ?_ | refine V_true rfl ?_ | refine V_false rfl ?_ | refine then_normal ?_ | refine then_ret ?_ | refine then_exit ?_ | refine block_normal ?_ | refine block_ret ?_ | refine block_hit ?_ | refine block_miss rfl ?_ | refine Ops_end rfl ?_ | (refine Ops_off ?_ rfl ?_; focus (first | exact off_guard rfl rfl rfl | exact off_undef rfl rfl)) | (apply Ops_q0; (case hon => exact on_none); (case hq => exact Yl_assign rfl)))
    refine V_loop (fun z : Nat × List Nb => [(7, .int .i64 z.1), (8, .int .i64 (2 * (s : Int) + z.1)), (6, .int .i64 s), (0, .slice (some ⟨g, 0, none⟩) n cap), (1, .int .i64 n), (2, .func (.func f) #[] #[])])
      (fun z w' => z.1 ≤ n ∧ (∃ q, z.1 = q * (2 * s) ∧ MidB cf z.2 n s q) ∧ Mod (Blk1 g) w w' ∧ Dat w' base g n cap z.2 ∧ z.2.Perm L) (fun z => n - z.1) (0, M) (by repeat (first | exact trivial | refine ⟨rfl, ?_⟩))
      ⟨Nat.zero_le _, ⟨0, (Nat.zero_mul _).symm, hB.mid⟩, m3, D3, hp3⟩ ?_
    clear hB m3 D3 hp3
    rintro ⟨a, M⟩ w4 ⟨h4, ⟨q, hq, hM⟩, m4, D4, hp4⟩
    dsimp only at h4 hq hM D4 hp4 ⊢
    have e8 : 2 * (s : Int) + (a : Int) + 2 * (s : Int) = 2 * (s : Int) + ((2 * s + a : Nat) : Int) := by omega
    repeat (first | (apply Ops_q; (case hon => (first | exact on_none | exact on_guard rfl rfl)); (case hd => rfl); (case hq => exact YlA)) | refine V_seq ?_ | refine V_block ?_ | refine V_region ?_ | refine V_region_still rfl (by kernel_rfl) (by kernel_rfl) ?_ | refine V_skip ?_ | refine V_ret ?_ | refine V_exit ?_ | refine V_true rfl ?_ | refine V_false rfl ?_ | refine then_normal ?_ | refine then_ret ?_ | refine then_exit ?_ | refine block_normal ?_ | refine block_ret ?_ | refine block_hit ?_ | refine block_miss rfl ?_ | refine Ops_end rfl ?_ | (refine Ops_off ?_ rfl ?_; focus (first | exact off_guard rfl rfl rfl | exact off_undef rfl rfl)) | (apply Ops_q0; (case hon => exact on_none); (case hq => exact Yl_assign rfl)))
    refine V_cond rfl (fun hg2 => ?_) (fun hg2 => ?_)
    · replace hg2 := of_decide_eq_true hg2
      have hab : 2 * s + a ≤ n := by omega
      have hparts := hM.parts (by omega)
      rw [← hq, Nat.min_eq_left (by omega), Nat.add_comm a (2 * s)] at hparts
      repeat (first | (apply Ops_q; (case hon => (first | exact on_none | exact on_guard rfl rfl)); (case hd => rfl); (case hq => exact YlA)) | refine V_seq ?_ | refine V_block ?_ | refine V_region ?_ | refine V_region_still rfl (by kernel_rfl) (by kernel_rfl) ?_ | refine V_skip ?_ | refine V_ret ?_ | refine V_exit ?_ | refine V_true rfl ?_ | refine V_false rfl ?_ | refine then_normal ?_ | refine then_ret ?_ | refine then_exit ?_ | refine block_normal ?_ | refine block_ret ?_ | refine block_hit ?_ | refine block_miss rfl ?_ | refine Ops_end rfl ?_ | (refine Ops_off ?_ rfl ?_; focus (first | exact off_guard rfl rfl rfl | exact off_undef rfl rfl)) | (apply Ops_q0; (case hon => exact on_none); (case hq => exact Yl_assign rfl)))
      refine Ops_callM (S := Blk1 g) (R := fun _ => DatR base g n cap (fun L' => Moved M L' a (2 * s + a) ∧ Asc cf L' a (2 * s + a))) (by first | exact on_none | exact on_guard rfl rfl) rfl rfl (fun w_ e_ => symMerge_v ho hcf hn n M a (a + s) (2 * s + a) w_ (by omega) (D4.ext e_) (by omega) (by omega) hab hparts.1 hparts.2) ?_
      intro r w5 w0_ e0 m5 hR
      obtain ⟨rfl, M', D5, hp5, hA5⟩ := hR
      repeat (first | (apply Ops_q; (case hon => (first | exact on_none | exact on_guard rfl rfl)); (case hd => rfl); (case hq => exact YlA)) | refine V_seq ?_ | refine V_block ?_ | refine V_region ?_ | refine V_region_still rfl (by kernel_rfl) (by kernel_rfl) ?_ | refine V_skip ?_ | refine V_ret ?_ | refine V_exit ?_ | refine V_true rfl ?_ | refine V_false rfl ?_ | refine then_normal ?_ | refine then_ret ?_ | refine then_exit ?_ | refine block_normal ?_ | refine block_ret ?_ | refine block_hit ?_ | refine block_miss rfl ?_ | refine Ops_end rfl ?_ | (refine Ops_off ?_ rfl ?_; focus (first | exact off_guard rfl rfl rfl | exact off_undef rfl rfl)) | (apply Ops_q0; (case hon => exact on_none); (case hq => exact Yl_assign rfl)))
      rw [e8]
      refine ⟨(2 * s + a, M'), (by repeat (first | exact trivial | refine ⟨rfl, ?_⟩)), ⟨hab, ⟨q + 1, by have : (q + 1) * (2 * s) = q * (2 * s) + 2 * s := Nat.succ_mul ..; dsimp only; omega, ?_⟩, (m4.ext e0).trans m5, D5, hp5.perm.trans hp4⟩, by simp only; omega⟩
      rw [hq, Nat.add_comm (2 * s)] at hp5 hA5
      exact hM.step hp5 hA5
    replace hg2 := of_decide_eq_false hg2
    repeat (first | (apply Ops_q; (case hon => (first | exact on_none | exact on_guard rfl rfl)); (case hd => rfl); (case hq => exact YlA)) | refine V_seq ?_ | refine V_block ?_ | refine V_region ?_ | refine V_region_still rfl (by kernel_rfl) (by kernel_rfl) ?_ | refine V_skip ?_ | refine V_ret ?_ | refine V_exit ?_ | refine V_true rfl ?_ | refine V_false rfl ?_ | refine then_normal ?_ | refine then_ret ?_ | refine then_exit ?_ | refine block_normal ?_ | refine block_ret ?_ | refine block_hit ?_ | refine block_miss rfl ?_ | refine Ops_end rfl ?_ | (refine Ops_off ?_ rfl ?_; focus (first | exact off_guard rfl rfl rfl | exact off_undef rfl rfl)) | (apply Ops_q0; (case hon => exact on_none); (case hq => exact Yl_assign rfl)))
    refine V_cond rfl (fun hg3 => ?_) (fun hg3 => ?_)
    · replace hg3 := of_decide_eq_true hg3
      have hparts := hM.parts (by omega)
      rw [← hq, Nat.min_eq_right (by omega)] at hparts
      repeat (first | (apply Ops_q; (case hon => (first | exact on_none | exact on_guard rfl rfl)); (case hd => rfl); (case hq => exact YlA)) | refine V_seq ?_ | refine V_block ?_ | refine V_region ?_ | refine V_region_still rfl (by kernel_rfl) (by kernel_rfl) ?_ | refine V_skip ?_ | refine V_ret ?_ | refine V_exit ?_ | refine V_true rfl ?_ | refine V_false rfl ?_ | refine then_normal ?_ | refine then_ret ?_ | refine then_exit ?_ | refine block_normal ?_ | refine block_ret ?_ | refine block_hit ?_ | refine block_miss rfl ?_ | refine Ops_end rfl ?_ | (refine Ops_off ?_ rfl ?_; focus (first | exact off_guard rfl rfl rfl | exact off_undef rfl rfl)) | (apply Ops_q0; (case hon => exact on_none); (case hq => exact Yl_assign rfl)))
      refine Ops_callM (S := Blk1 g) (R := fun _ => DatR base g n cap (fun L' => Moved M L' a n ∧ Asc cf L' a n)) (by first | exact on_none | exact on_guard rfl rfl) rfl rfl (fun w_ e_ => symMerge_v ho hcf hn n M a (a + s) n w_ (by omega) (D4.ext e_) (by omega) (by omega) (Nat.le_refl _) hparts.1 hparts.2) ?_
      intro r w5 w0_ e0 m5 hR
      obtain ⟨rfl, M', D5, hp5, hA5⟩ := hR
      repeat (first | (apply Ops_q; (case hon => (first | exact on_none | exact on_guard rfl rfl)); (case hd => rfl); (case hq => exact YlA)) | refine V_seq ?_ | refine V_block ?_ | refine V_region ?_ | refine V_region_still rfl (by kernel_rfl) (by kernel_rfl) ?_ | refine V_skip ?_ | refine V_ret ?_ | refine V_exit ?_ | refine V_true rfl ?_ | refine V_false rfl ?_ | refine then_normal ?_ | refine then_ret ?_ | refine then_exit ?_ | refine block_normal ?_ | refine block_ret ?_ | refine block_hit ?_ | refine block_miss rfl ?_ | refine Ops_end rfl ?_ | (refine Ops_off ?_ rfl ?_; focus (first | exact off_guard rfl rfl rfl | exact off_undef rfl rfl)) | (apply Ops_q0; (case hon => exact on_none); (case hq => exact Yl_assign rfl)))
      refine ⟨(s * 2, M'), (by repeat (first | exact trivial | refine ⟨rfl, ?_⟩)), ⟨by dsimp only; omega, by dsimp only; omega, ?_, (m4.ext e0).trans m5, D5, hp5.perm.trans hp4⟩, by simp only; omega⟩
      rw [hq] at hp5 hA5
      dsimp only
      rw [Nat.mul_comm s 2]
      exact hM.done (by omega) hp5 hA5
    · replace hg3 := of_decide_eq_false hg3
      repeat (first | (apply Ops_q; (case hon => (first | exact on_none | exact on_guard rfl rfl)); (case hd => rfl); (case hq => exact YlA)) | refine V_seq ?_ | refine V_block ?_ | refine V_region ?_ | refine V_region_still rfl (by kernel_rfl) (by kernel_rfl) ?_ | refine V_skip ?_ | refine V_ret ?_ | refine V_exit ?_ | refine V_true rfl ?_ | refine V_false rfl ?_ | refine then_normal ?_ | refine then_ret ?_ | refine then_exit ?_ | refine block_normal ?_ | refine block_ret ?_ | refine block_hit ?_ | refine block_miss rfl ?_ | refine Ops_end rfl ?_ | (refine Ops_off ?_ rfl ?_; focus (first | exact off_guard rfl rfl rfl | exact off_undef rfl rfl)) | (apply Ops_q0; (case hon => exact on_none); (case hq => exact Yl_assign rfl)))
      refine ⟨(s * 2, M), (by repeat (first | exact trivial | refine ⟨rfl, ?_⟩)), ⟨by dsimp only; omega, by dsimp only; omega, ?_, m4, D4, hp4⟩, by simp only; omega⟩
      dsimp only
      rw [Nat.mul_comm s 2]
      exact hM.done (by omega) (Moved.refl ..) (hM.rest (by omega))
  replace hg := of_decide_eq_false hg
  repeat (first | (apply Ops_q; (case hon => (first | exact on_none | exact on_guard rfl rfl)); (case hd => rfl); (case hq => exact YlA)) | refine V_seq ?_ | refine V_block ?_ | refine V_region ?_ | refine V_region_still rfl (by kernel_rfl) (by kernel_rfl) ?_ | refine V_skip ?_ | refine V_ret ?_ | refine V_exit ?_ | refine V_true rfl ?_ | refine V_false rfl ?_ | refine then_normal ?_ | refine then_ret ?_ | refine then_exit ?_ | refine block_normal ?_ | refine block_ret ?_ | refine block_hit ?_ | refine block_miss rfl ?_ | refine Ops_end rfl ?_ | (refine Ops_off ?_ rfl ?_; focus (first | exact off_guard rfl rfl rfl | exact off_undef rfl rfl)) | (apply Ops_q0; (case hon => exact on_none); (case hq => exact Yl_assign rfl)))
  refine ret0 (by first | exact .inl rfl | exact .inr rfl) rfl ?_
  exact Does_mk (fun w' he => ⟨rfl, M, D3.ext he, hp3, hB.all (by omega)⟩) m3
theorem sortStable_v (ho : Ord cf) (hcf : ∀ x y w', Calls Try.prog f #[x.val, y.val] w' (Ret (.int .i64 (cf x y)) w')) (hn : n ≤ 1000000000000) (L : List Nb) (w : World) (hD : Dat w base g n cap L) :
    Calls Try.prog 30 #[.slice (some ⟨g, 0, none⟩) n cap, .func (.func f) #[] #[]] w
      (Does (Blk1 g) (DatR base g n cap (fun L' => L'.Perm L ∧ Asc cf L' 0 n)) w) := by
  refine V_enter (vs := [_, _]) Try.func30 rfl Try.ntmps30 (Nat.le_of_ble_eq_true rfl) ?_
  repeat (first | (apply Ops_q; (case hon => (first | exact on_none | exact on_guard rfl rfl)); (case hd => rfl); (case hq => exact YlA)) | refine V_seq ?_ | refine V_block ?_ | refine V_region ?_ | refine V_region_still rfl (by kernel_rfl) (by kernel_rfl) ?_ | refine V_skip ?_ | refine V_ret ?_ | refine V_exit ?_ | refine V_true rfl ?_ | refine V_false rfl ?_ | refine then_normal ?_ | refine then_ret ?_ | refine then_exit ?_ | refine block_normal ?_ | refine block_ret ?_ | refine block_hit ?_ | refine block_miss rfl ?_ | refine Ops_end rfl ?_ | (refine Ops_off ?_ rfl ?_; focus (first | exact off_guard rfl rfl rfl | exact off_undef rfl rfl)) | (apply Ops_q0; (case hon => exact on_none); (case hq => exact Yl_assign rfl)))
  refine Ops_callM (S := Blk1 g) (R := fun _ => DatR base g n cap (fun L' => L'.Perm L ∧ Asc cf L' 0 n)) (by first | exact on_none | exact on_guard rfl rfl) rfl rfl (fun w_ e_ => stable_v ho hcf hn L w_ (hD.ext e_)) ?_
  intro r w2 w0_ e0 m2 hR
  obtain ⟨rfl, M2, D2, hp2, hA2⟩ := hR
  repeat (first | (apply Ops_q; (case hon => (first | exact on_none | exact on_guard rfl rfl)); (case hd => rfl); (case hq => exact YlA)) | refine V_seq ?_ | refine V_block ?_ | refine V_region ?_ | refine V_region_still rfl (by kernel_rfl) (by kernel_rfl) ?_ | refine V_skip ?_ | refine V_ret ?_ | refine V_exit ?_ | refine V_true rfl ?_ | refine V_false rfl ?_ | refine then_normal ?_ | refine then_ret ?_ | refine then_exit ?_ | refine block_normal ?_ | refine block_ret ?_ | refine block_hit ?_ | refine block_miss rfl ?_ | refine Ops_end rfl ?_ | (refine Ops_off ?_ rfl ?_; focus (first | exact off_guard rfl rfl rfl | exact off_undef rfl rfl)) | (apply Ops_q0; (case hon => exact on_none); (case hq => exact Yl_assign rfl)))
  refine ret0 (by first | exact .inl rfl | exact .inr rfl) rfl ?_
  exact Does_mk (fun w' he => ⟨rfl, M2, D2.ext he, hp2, hA2⟩) ((Mod.of_ext e0).trans m2)
end
/-! ### No slice -/
theorem insertionSort_nil (fv : Value) (w : World) : Calls Try.prog 46 #[.slice none 0 0, .int .i64 0, .int .i64 0, fv] w (Ret (.tuple #[]) w) := by
  refine V_enter (vs := [_, _, _, _]) Try.func46 rfl Try.ntmps46 (Nat.le_of_ble_eq_true rfl) ?_
  repeat (first | (apply Ops_q; (case hon => (first | exact on_none | exact on_guard rfl rfl)); (case hd => rfl); (case hq => exact YlA)) | refine V_seq ?_ | refine V_block ?_ | refine V_region ?_ | refine V_region_still rfl (by kernel_rfl) (by kernel_rfl) ?_ | refine V_skip ?_ | refine V_ret ?_ | refine V_exit ?_ | refine V_true rfl ?_ | refine V_false rfl ?_ | refine then_normal ?_ | refine then_ret ?_ | refine then_exit ?_ | refine block_normal ?_ | refine block_ret ?_ | refine block_hit ?_ | refine block_miss rfl ?_ | refine Ops_end rfl ?_ | (refine Ops_off ?_ rfl ?_; focus (first | exact off_guard rfl rfl rfl | exact off_undef rfl rfl)) | (apply Ops_q0; (case hon => exact on_none); (case hq => exact Yl_assign rfl)))
  refine V_loop (fun _ : Unit => [(8, .int .i64 1), (2, .int .i64 0)]) (fun _ w' => Ext w w') (fun _ => 0) () (by repeat (first | exact trivial | refine ⟨rfl, ?_⟩)) (Ext.refl _) ?_
  rintro _ w1 e1
  repeat (first | (apply Ops_q; (case hon => (first | exact on_none | exact on_guard rfl rfl)); (case hd => rfl); (case hq => exact YlA)) | refine V_seq ?_ | refine V_block ?_ | refine V_region ?_ | refine V_region_still rfl (by kernel_rfl) (by kernel_rfl) ?_ | refine V_skip ?_ | refine V_ret ?_ | refine V_exit ?_ | refine V_true rfl ?_ | refine V_false rfl ?_ | refine then_normal ?_ | refine then_ret ?_ | refine then_exit ?_ | refine block_normal ?_ | refine block_ret ?_ | refine block_hit ?_ | refine block_miss rfl ?_ | refine Ops_end rfl ?_ | (refine Ops_off ?_ rfl ?_; focus (first | exact off_guard rfl rfl rfl | exact off_undef rfl rfl)) | (apply Ops_q0; (case hon => exact on_none); (case hq => exact Yl_assign rfl)))
  refine ret0 (by first | exact .inl rfl | exact .inr rfl) rfl ?_
  exact Ret_mk rfl e1
theorem stable_nil (fv : Value) (w : World) : Calls Try.prog 42 #[.slice none 0 0, .int .i64 0, fv] w (Ret (.tuple #[]) w) := by
  refine V_enter (vs := [_, _, _]) Try.func42 rfl Try.ntmps42 (Nat.le_of_ble_eq_true rfl) ?_
  repeat (first | (apply Ops_q; (case hon => (first | exact on_none | exact on_guard rfl rfl)); (case hd => rfl); (case hq => exact YlA)) | refine V_seq ?_ | refine V_block ?_ | refine V_region ?_ | refine V_region_still rfl (by kernel_rfl) (by kernel_rfl) ?_ | refine V_skip ?_ | refine V_ret ?_ | refine V_exit ?_ | refine V_true rfl ?_ | refine V_false rfl ?_ | refine then_normal ?_ | refine then_ret ?_ | refine then_exit ?_ | refine block_normal ?_ | refine block_ret ?_ | refine block_hit ?_ | refine block_miss rfl ?_ | refine Ops_end rfl ?_ | (refine Ops_off ?_ rfl ?_; focus (first | exact off_guard rfl rfl rfl | exact off_undef rfl rfl)) | (apply Ops_q0; (case hon => exact on_none); (case hq => exact Yl_assign rfl)))
  refine V_loop (fun _ : Unit => [(7, .int .i64 0), (8, .int .i64 20), (6, .int .i64 20), (0, .slice none 0 0), (1, .int .i64 0), (2, fv)]) (fun _ w' => Ext w w') (fun _ => 0) () (by repeat (first | exact trivial | refine ⟨rfl, ?_⟩)) (Ext.refl _) ?_
  rintro _ w1 e1
  repeat (first | (apply Ops_q; (case hon => (first | exact on_none | exact on_guard rfl rfl)); (case hd => rfl); (case hq => exact YlA)) | refine V_seq ?_ | refine V_block ?_ | refine V_region ?_ | refine V_region_still rfl (by kernel_rfl) (by kernel_rfl) ?_ | refine V_skip ?_ | refine V_ret ?_ | refine V_exit ?_ | refine V_true rfl ?_ | refine V_false rfl ?_ | refine then_normal ?_ | refine then_ret ?_ | refine then_exit ?_ | refine block_normal ?_ | refine block_ret ?_ | refine block_hit ?_ | refine block_miss rfl ?_ | refine Ops_end rfl ?_ | (refine Ops_off ?_ rfl ?_; focus (first | exact off_guard rfl rfl rfl | exact off_undef rfl rfl)) | (apply Ops_q0; (case hon => exact on_none); (case hq => exact Yl_assign rfl)))
  (apply Ops_q; (case hon => (first | exact on_none | exact on_guard rfl rfl)); (case hd => rfl); (case hq => exact Yl_call rfl (fun w_ e_ => insertionSort_nil fv w_)))
  repeat (first | (apply Ops_q; (case hon => (first | exact on_none | exact on_guard rfl rfl)); (case hd => rfl); (case hq => exact YlA)) | refine V_seq ?_ | refine V_block ?_ | refine V_region ?_ | refine V_region_still rfl (by kernel_rfl) (by kernel_rfl) ?_ | refine V_skip ?_ | refine V_ret ?_ | refine V_exit ?_ | refine V_true rfl ?_ | refine V_false rfl ?_ | refine then_normal ?_ | refine then_ret ?_ | refine then_exit ?_ | refine block_normal ?_ | refine block_ret ?_ | refine block_hit ?_ | refine block_miss rfl ?_ | refine Ops_end rfl ?_ | (refine Ops_off ?_ rfl ?_; focus (first | exact off_guard rfl rfl rfl | exact off_undef rfl rfl)) | (apply Ops_q0; (case hon => exact on_none); (case hq => exact Yl_assign rfl)))
  refine V_loop (fun _ : Unit => [(6, .int .i64 20), (1, .int .i64 0)]) (fun _ w' => Ext w w') (fun _ => 0) () (by repeat (first | exact trivial | refine ⟨rfl, ?_⟩)) e1 ?_
  rintro _ w1 e1
  repeat (first | (apply Ops_q; (case hon => (first | exact on_none | exact on_guard rfl rfl)); (case hd => rfl); (case hq => exact YlA)) | refine V_seq ?_ | refine V_block ?_ | refine V_region ?_ | refine V_region_still rfl (by kernel_rfl) (by kernel_rfl) ?_ | refine V_skip ?_ | refine V_ret ?_ | refine V_exit ?_ | refine V_true rfl ?_ | refine V_false rfl ?_ | refine then_normal ?_ | refine then_ret ?_ | refine then_exit ?_ | refine block_normal ?_ | refine block_ret ?_ | refine block_hit ?_ | refine block_miss rfl ?_ | refine Ops_end rfl ?_ | (refine Ops_off ?_ rfl ?_; focus (first | exact off_guard rfl rfl rfl | exact off_undef rfl rfl)) | (apply Ops_q0; (case hon => exact on_none); (case hq => exact Yl_assign rfl)))
  refine ret0 (by first | exact .inl rfl | exact .inr rfl) rfl ?_
  exact Ret_mk rfl e1
theorem sortStable_nil (fv : Value) (w : World) : Calls Try.prog 30 #[.slice none 0 0, fv] w (Ret (.tuple #[]) w) := by
  refine V_enter (vs := [_, _]) Try.func30 rfl Try.ntmps30 (Nat.le_of_ble_eq_true rfl) ?_
  repeat (first | (apply Ops_q; (case hon => (first | exact on_none | exact on_guard rfl rfl)); (case hd => rfl); (case hq => exact YlA)) | refine V_seq ?_ | refine V_block ?_ | refine V_region ?_ | refine V_region_still rfl (by kernel_rfl) (by kernel_rfl) ?_ | refine V_skip ?_ | refine V_ret ?_ | refine V_exit ?_ | refine V_true rfl ?_ | refine V_false rfl ?_ | refine then_normal ?_ | refine then_ret ?_ | refine then_exit ?_ | refine block_normal ?_ | refine block_ret ?_ | refine block_hit ?_ | refine block_miss rfl ?_ | refine Ops_end rfl ?_ | (refine Ops_off ?_ rfl ?_; focus (first | exact off_guard rfl rfl rfl | exact off_undef rfl rfl)) | (apply Ops_q0; (case hon => exact on_none); (case hq => exact Yl_assign rfl)))
  (apply Ops_q; (case hon => (first | exact on_none | exact on_guard rfl rfl)); (case hd => rfl); (case hq => exact Yl_call rfl (fun w_ e_ => stable_nil fv w_)))
  repeat (first | (apply Ops_q; (case hon => (first | exact on_none | exact on_guard rfl rfl)); (case hd => rfl); (case hq => exact YlA)) | refine V_seq ?_ | refine V_block ?_ | refine V_region ?_ | refine V_region_still rfl (by kernel_rfl) (by kernel_rfl) ?_ | refine V_skip ?_ | refine V_ret ?_ | refine V_exit ?_ | refine V_true rfl ?_ | refine V_false rfl ?_ | refine then_normal ?_ | refine then_ret ?_ | refine then_exit ?_ | refine block_normal ?_ | refine block_ret ?_ | refine block_hit ?_ | refine block_miss rfl ?_ | refine Ops_end rfl ?_ | (refine Ops_off ?_ rfl ?_; focus (first | exact off_guard rfl rfl rfl | exact off_undef rfl rfl)) | (apply Ops_q0; (case hon => exact on_none); (case hq => exact Yl_assign rfl)))
  refine ret0 (by first | exact .inl rfl | exact .inr rfl) rfl ?_
  exact Ret_mk rfl (Ext.refl _)
end Go.Proofs.Ytfakgiikobajnaa

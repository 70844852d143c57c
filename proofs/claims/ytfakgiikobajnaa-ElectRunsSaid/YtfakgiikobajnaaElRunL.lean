/-
  Layer 27 (elect): the walks of the reference's Run, of Same, and of the law of runs.
  Conditions: the lists are not too long for a machine.
-/
import Derived.Test.YtfakgiikobajnaaElRunW
namespace Go.Proofs.Ytfakgiikobajnaa
open Go.RowKit

theorem runS_no {s : Ist} {router : Int} {L : List Nf} (h : s.up = false ∨ s.k ≠ 2) : runS s router L s.nb = s := by
  unfold runS
  rw [if_neg]
  intro h2
  simp only [Bool.and_eq_true, decide_eq_true_eq] at h2
  rcases h with h | h
  · rw [h] at h2; cases h2.1
  · exact h h2.2
theorem runS_yes {s : Ist} {router : Int} {L : List Nf} (hu : s.up = true) (hk : s.k = 2) : runS s router L s.nb = { s with d := (electP router ((rl router (s.own router) (decide (s.pr ≤ 0)) L).map Nf.nb)).1, b := (electP router ((rl router (s.own router) (decide (s.pr ≤ 0)) L).map Nf.nb)).2, el := 0 } := by
  unfold runS
  rw [if_pos (by rw [hu, decide_eq_true hk]; rfl)]
set_option maxHeartbeats 2000000 in
theorem rrun_v (s : Ist) (router : Int) (L : List Nf) (w : World) (hL : Nfs w s.nb.ao L) (hln : s.nb.n = L.length) (hn : L.length * 168 ≤ 140737488351232) :
    Calls Try.prog 19 #[s.val, .int .u32 router] w (Gives (fun r _ => r = (runS s router L s.nb).val) w) := by
  refine V_enter (vs := [_, _]) Try.func19 rfl Try.ntmps19 (Nat.le_of_ble_eq_true rfl) ?_
  repeat (first | (apply Ops_q; (case hon => (first | exact on_none | exact on_guard rfl rfl)); (case hd => rfl); (case hq => exact YlA)) | refine V_seq ?_ | refine V_block ?_ | refine V_region ?_ | refine V_region_still rfl (by kernel_rfl) (by kernel_rfl) ?_ | refine V_skip ?_ | refine V_ret ?_ | refine V_exit ?_ | refine V_true rfl ?_ | refine V_false rfl ?_ | refine then_normal ?_ | refine then_ret ?_ | refine then_exit ?_ | refine block_normal ?_ | refine block_ret ?_ | refine block_hit ?_ | refine block_miss rfl ?_ | refine Ops_end rfl ?_ | (refine Ops_off ?_ rfl ?_; focus (first | exact off_guard rfl rfl rfl | exact off_undef rfl rfl)) | (apply Ops_q0; (case hon => exact on_none); (case hq => exact Yl_assign rfl)))
  (refine Ops_box (by first | exact on_none | exact on_guard rfl rfl) rfl rfl rfl ?_; intro w1 b1 n_b1; have k_b1 := n_b1.blk)
  repeat (first | (apply Ops_q; (case hon => (first | exact on_none | exact on_guard rfl rfl)); (case hd => rfl); (case hq => exact YlA)) | refine V_seq ?_ | refine V_block ?_ | refine V_region ?_ | refine V_region_still rfl (by kernel_rfl) (by kernel_rfl) ?_ | refine V_skip ?_ | refine V_ret ?_ | refine V_exit ?_ | refine V_true rfl ?_ | refine V_false rfl ?_ | refine then_normal ?_ | refine then_ret ?_ | refine then_exit ?_ | refine block_normal ?_ | refine block_ret ?_ | refine block_hit ?_ | refine block_miss rfl ?_ | refine Ops_end rfl ?_ | (refine Ops_off ?_ rfl ?_; focus (first | exact off_guard rfl rfl rfl | exact off_undef rfl rfl)) | (apply Ops_q0; (case hon => exact on_none); (case hq => exact Yl_assign rfl)))
  (refine Ops_alloc (by first | exact on_none | exact on_guard rfl rfl) rfl ?_; intro w2 b2 n_b2; have k_b2 := n_b2.blk)
  have ne_b1_b2 : b1 ≠ b2 := Nat.ne_of_lt (Nat.lt_of_lt_of_le k_b1.lt n_b2.ge)
  replace k_b1 := k_b1.ext n_b2.ext
  have e2 := n_b1.ext.trans n_b2.ext
  have hb1w := n_b1.ge
  have hb2w := Nat.le_trans n_b1.ext.size n_b2.ge
  repeat (first | (apply Ops_q; (case hon => (first | exact on_none | exact on_guard rfl rfl)); (case hd => rfl); (case hq => exact YlA)) | refine V_seq ?_ | refine V_block ?_ | refine V_region ?_ | refine V_region_still rfl (by kernel_rfl) (by kernel_rfl) ?_ | refine V_skip ?_ | refine V_ret ?_ | refine V_exit ?_ | refine V_true rfl ?_ | refine V_false rfl ?_ | refine then_normal ?_ | refine then_ret ?_ | refine then_exit ?_ | refine block_normal ?_ | refine block_ret ?_ | refine block_hit ?_ | refine block_miss rfl ?_ | refine Ops_end rfl ?_ | (refine Ops_off ?_ rfl ?_; focus (first | exact off_guard rfl rfl rfl | exact off_undef rfl rfl)) | (apply Ops_q0; (case hon => exact on_none); (case hq => exact Yl_assign rfl)))
  cases hu : s.up with
  | false =>
    have hS : runS s router L s.nb = s := runS_no (.inl hu)
    repeat (first | (apply Ops_q; (case hon => (first | exact on_none | exact on_guard rfl rfl)); (case hd => rfl); (case hq => exact YlA)) | refine V_seq ?_ | refine V_block ?_ | refine V_region ?_ | refine V_region_still rfl (by kernel_rfl) (by kernel_rfl) ?_ | refine V_skip ?_ | refine V_ret ?_ | refine V_exit ?_ | refine V_true rfl ?_ | refine V_false rfl ?_ | refine then_normal ?_ | refine then_ret ?_ | refine then_exit ?_ | refine block_normal ?_ | refine block_ret ?_ | refine block_hit ?_ | refine block_miss rfl ?_ | refine Ops_end rfl ?_ | (refine Ops_off ?_ rfl ?_; focus (first | exact off_guard rfl rfl rfl | exact off_undef rfl rfl)) | (apply Ops_q0; (case hon => exact on_none); (case hq => exact Yl_assign rfl)))
    (refine Ops_store (by first | exact on_none | exact on_guard rfl rfl) rfl rfl (by assumption) (by first | rfl | exact OneAll.h) ?_; intro w3 u_w3; have k_b2 := u_w3.blk)
    have e3 := u_w3.below e2 hb2w
    repeat (first | (apply Ops_q; (case hon => (first | exact on_none | exact on_guard rfl rfl)); (case hd => rfl); (case hq => exact YlA)) | refine V_seq ?_ | refine V_block ?_ | refine V_region ?_ | refine V_region_still rfl (by kernel_rfl) (by kernel_rfl) ?_ | refine V_skip ?_ | refine V_ret ?_ | refine V_exit ?_ | refine V_true rfl ?_ | refine V_false rfl ?_ | refine then_normal ?_ | refine then_ret ?_ | refine then_exit ?_ | refine block_normal ?_ | refine block_ret ?_ | refine block_hit ?_ | refine block_miss rfl ?_ | refine Ops_end rfl ?_ | (refine Ops_off ?_ rfl ?_; focus (first | exact off_guard rfl rfl rfl | exact off_undef rfl rfl)) | (apply Ops_q0; (case hon => exact on_none); (case hq => exact Yl_assign rfl)))
    refine retR1 (by first | exact .inl rfl | exact .inr rfl) rfl (res_agg rfl k_b2.cells) ?_
    exact Gives_mk (fun w' _ => by rw [hS]) e3
  | true =>
    repeat (first | (apply Ops_q; (case hon => (first | exact on_none | exact on_guard rfl rfl)); (case hd => rfl); (case hq => exact YlA)) | refine V_seq ?_ | refine V_block ?_ | refine V_region ?_ | refine V_region_still rfl (by kernel_rfl) (by kernel_rfl) ?_ | refine V_skip ?_ | refine V_ret ?_ | refine V_exit ?_ | refine V_true rfl ?_ | refine V_false rfl ?_ | refine then_normal ?_ | refine then_ret ?_ | refine then_exit ?_ | refine block_normal ?_ | refine block_ret ?_ | refine block_hit ?_ | refine block_miss rfl ?_ | refine Ops_end rfl ?_ | (refine Ops_off ?_ rfl ?_; focus (first | exact off_guard rfl rfl rfl | exact off_undef rfl rfl)) | (apply Ops_q0; (case hon => exact on_none); (case hq => exact Yl_assign rfl)))
    refine V_cond rfl (fun hk => ?_) (fun hk => ?_)
    · have hk2 : ¬s.k = 2 := by simpa using hk
      have hS : runS s router L s.nb = s := runS_no (.inr hk2)
      repeat (first | (apply Ops_q; (case hon => (first | exact on_none | exact on_guard rfl rfl)); (case hd => rfl); (case hq => exact YlA)) | refine V_seq ?_ | refine V_block ?_ | refine V_region ?_ | refine V_region_still rfl (by kernel_rfl) (by kernel_rfl) ?_ | refine V_skip ?_ | refine V_ret ?_ | refine V_exit ?_ | refine V_true rfl ?_ | refine V_false rfl ?_ | refine then_normal ?_ | refine then_ret ?_ | refine then_exit ?_ | refine block_normal ?_ | refine block_ret ?_ | refine block_hit ?_ | refine block_miss rfl ?_ | refine Ops_end rfl ?_ | (refine Ops_off ?_ rfl ?_; focus (first | exact off_guard rfl rfl rfl | exact off_undef rfl rfl)) | (apply Ops_q0; (case hon => exact on_none); (case hq => exact Yl_assign rfl)))
      (refine Ops_store (by first | exact on_none | exact on_guard rfl rfl) rfl rfl (by assumption) (by first | rfl | exact OneAll.h) ?_; intro w3 u_w3; have k_b2 := u_w3.blk)
      have e3 := u_w3.below e2 hb2w
      repeat (first | (apply Ops_q; (case hon => (first | exact on_none | exact on_guard rfl rfl)); (case hd => rfl); (case hq => exact YlA)) | refine V_seq ?_ | refine V_block ?_ | refine V_region ?_ | refine V_region_still rfl (by kernel_rfl) (by kernel_rfl) ?_ | refine V_skip ?_ | refine V_ret ?_ | refine V_exit ?_ | refine V_true rfl ?_ | refine V_false rfl ?_ | refine then_normal ?_ | refine then_ret ?_ | refine then_exit ?_ | refine block_normal ?_ | refine block_ret ?_ | refine block_hit ?_ | refine block_miss rfl ?_ | refine Ops_end rfl ?_ | (refine Ops_off ?_ rfl ?_; focus (first | exact off_guard rfl rfl rfl | exact off_undef rfl rfl)) | (apply Ops_q0; (case hon => exact on_none); (case hq => exact Yl_assign rfl)))
      refine retR1 (by first | exact .inl rfl | exact .inr rfl) rfl (res_agg rfl k_b2.cells) ?_
      exact Gives_mk (fun w' _ => by rw [hS]) e3
    · have hk2 : s.k = 2 := by simpa using hk
      repeat (first | (apply Ops_q; (case hon => (first | exact on_none | exact on_guard rfl rfl)); (case hd => rfl); (case hq => exact YlA)) | refine V_seq ?_ | refine V_block ?_ | refine V_region ?_ | refine V_region_still rfl (by kernel_rfl) (by kernel_rfl) ?_ | refine V_skip ?_ | refine V_ret ?_ | refine V_exit ?_ | refine V_true rfl ?_ | refine V_false rfl ?_ | refine then_normal ?_ | refine then_ret ?_ | refine then_exit ?_ | refine block_normal ?_ | refine block_ret ?_ | refine block_hit ?_ | refine block_miss rfl ?_ | refine Ops_end rfl ?_ | (refine Ops_off ?_ rfl ?_; focus (first | exact off_guard rfl rfl rfl | exact off_undef rfl rfl)) | (apply Ops_q0; (case hon => exact on_none); (case hq => exact Yl_assign rfl)))
      (refine Ops_callR (by first | exact on_none | exact on_guard rfl rfl) rfl rfl (fun w_ e_ => rcandidates_v s router L w_ (hL.ext (e2.trans e_)) hln hn) ?_; intro v w3 w0_ e0_ e1_ r_v; have e_w3 := e0_.trans e1_; have b_v := e0_.size; clear e0_ e1_)
      have hmap : ∀ R : List Nf, R.map Nf.cells = (R.map Nf.nb).map Nb.cells := fun R => by rw [List.map_map]; rfl
      rw [hmap] at r_v
      have hrll := rl_len router (s.own router) L (decide (s.pr ≤ 0))
      have hS' := runS_yes (router := router) (L := L) hu hk2
      have hRl : ((rl router (s.own router) (decide (s.pr ≤ 0)) L).map Nf.nb).length ≤ L.length + 1 := by rw [List.length_map]; exact hrll
      generalize hR : (rl router (s.own router) (decide (s.pr ≤ 0)) L).map Nf.nb = R at *
      obtain ⟨ao7, c7, rfl, hA7⟩ := r_v.slice
      rw [List.length_map]
      have hNb : Nbs w3 ao7 R := Nbs.of_arr hA7
      have hl2 := k_b2.lt
      replace k_b1 := k_b1.ext e_w3
      replace k_b2 := k_b2.ext e_w3
      repeat (first | (apply Ops_q; (case hon => (first | exact on_none | exact on_guard rfl rfl)); (case hd => rfl); (case hq => exact YlA)) | refine V_seq ?_ | refine V_block ?_ | refine V_region ?_ | refine V_region_still rfl (by kernel_rfl) (by kernel_rfl) ?_ | refine V_skip ?_ | refine V_ret ?_ | refine V_exit ?_ | refine V_true rfl ?_ | refine V_false rfl ?_ | refine then_normal ?_ | refine then_ret ?_ | refine then_exit ?_ | refine block_normal ?_ | refine block_ret ?_ | refine block_hit ?_ | refine block_miss rfl ?_ | refine Ops_end rfl ?_ | (refine Ops_off ?_ rfl ?_; focus (first | exact off_guard rfl rfl rfl | exact off_undef rfl rfl)) | (apply Ops_q0; (case hon => exact on_none); (case hq => exact Yl_assign rfl)))
      (apply Ops_q; (case hon => (first | exact on_none | exact on_guard rfl rfl)); (case hd => rfl); (case hq => exact Yl_call rfl (fun w_ e_ => relect_p router ao7 R c7 w_ (hNb.ext e_) (by omega))))
      repeat (first | (apply Ops_q; (case hon => (first | exact on_none | exact on_guard rfl rfl)); (case hd => rfl); (case hq => exact YlA)) | refine V_seq ?_ | refine V_block ?_ | refine V_region ?_ | refine V_region_still rfl (by kernel_rfl) (by kernel_rfl) ?_ | refine V_skip ?_ | refine V_ret ?_ | refine V_exit ?_ | refine V_true rfl ?_ | refine V_false rfl ?_ | refine then_normal ?_ | refine then_ret ?_ | refine then_exit ?_ | refine block_normal ?_ | refine block_ret ?_ | refine block_hit ?_ | refine block_miss rfl ?_ | refine Ops_end rfl ?_ | (refine Ops_off ?_ rfl ?_; focus (first | exact off_guard rfl rfl rfl | exact off_undef rfl rfl)) | (apply Ops_q0; (case hon => exact on_none); (case hq => exact Yl_assign rfl)))
      (refine Ops_store (by first | exact on_none | exact on_guard rfl rfl) rfl rfl (by assumption) (by first | rfl | exact OneAll.h) ?_; intro w4 u_w4; have k_b1 := u_w4.blk)
      replace k_b2 := u_w4.keep k_b2 ne_b1_b2.symm
      have e4 := u_w4.below (e2.trans e_w3) hb1w
      repeat (first | (apply Ops_q; (case hon => (first | exact on_none | exact on_guard rfl rfl)); (case hd => rfl); (case hq => exact YlA)) | refine V_seq ?_ | refine V_block ?_ | refine V_region ?_ | refine V_region_still rfl (by kernel_rfl) (by kernel_rfl) ?_ | refine V_skip ?_ | refine V_ret ?_ | refine V_exit ?_ | refine V_true rfl ?_ | refine V_false rfl ?_ | refine then_normal ?_ | refine then_ret ?_ | refine then_exit ?_ | refine block_normal ?_ | refine block_ret ?_ | refine block_hit ?_ | refine block_miss rfl ?_ | refine Ops_end rfl ?_ | (refine Ops_off ?_ rfl ?_; focus (first | exact off_guard rfl rfl rfl | exact off_undef rfl rfl)) | (apply Ops_q0; (case hon => exact on_none); (case hq => exact Yl_assign rfl)))
      (refine Ops_store (by first | exact on_none | exact on_guard rfl rfl) rfl rfl (by assumption) (by first | rfl | exact OneAll.h) ?_; intro w5 u_w5; have k_b1 := u_w5.blk)
      replace k_b2 := u_w5.keep k_b2 ne_b1_b2.symm
      have e5 := u_w5.below e4 hb1w
      repeat (first | (apply Ops_q; (case hon => (first | exact on_none | exact on_guard rfl rfl)); (case hd => rfl); (case hq => exact YlA)) | refine V_seq ?_ | refine V_block ?_ | refine V_region ?_ | refine V_region_still rfl (by kernel_rfl) (by kernel_rfl) ?_ | refine V_skip ?_ | refine V_ret ?_ | refine V_exit ?_ | refine V_true rfl ?_ | refine V_false rfl ?_ | refine then_normal ?_ | refine then_ret ?_ | refine then_exit ?_ | refine block_normal ?_ | refine block_ret ?_ | refine block_hit ?_ | refine block_miss rfl ?_ | refine Ops_end rfl ?_ | (refine Ops_off ?_ rfl ?_; focus (first | exact off_guard rfl rfl rfl | exact off_undef rfl rfl)) | (apply Ops_q0; (case hon => exact on_none); (case hq => exact Yl_assign rfl)))
      (refine Ops_store (by first | exact on_none | exact on_guard rfl rfl) rfl rfl (by assumption) (by first | rfl | exact OneAll.h) ?_; intro w6 u_w6; have k_b1 := u_w6.blk)
      replace k_b2 := u_w6.keep k_b2 ne_b1_b2.symm
      have e6 := u_w6.below e5 hb1w
      repeat (first | (apply Ops_q; (case hon => (first | exact on_none | exact on_guard rfl rfl)); (case hd => rfl); (case hq => exact YlA)) | refine V_seq ?_ | refine V_block ?_ | refine V_region ?_ | refine V_region_still rfl (by kernel_rfl) (by kernel_rfl) ?_ | refine V_skip ?_ | refine V_ret ?_ | refine V_exit ?_ | refine V_true rfl ?_ | refine V_false rfl ?_ | refine then_normal ?_ | refine then_ret ?_ | refine then_exit ?_ | refine block_normal ?_ | refine block_ret ?_ | refine block_hit ?_ | refine block_miss rfl ?_ | refine Ops_end rfl ?_ | (refine Ops_off ?_ rfl ?_; focus (first | exact off_guard rfl rfl rfl | exact off_undef rfl rfl)) | (apply Ops_q0; (case hon => exact on_none); (case hq => exact Yl_assign rfl)))
      (refine Ops_store (by first | exact on_none | exact on_guard rfl rfl) rfl rfl (by assumption) (by first | rfl | exact OneAll.h) ?_; intro w7 u_w7; have k_b2 := u_w7.blk)
      have e7 := u_w7.below e6 hb2w
      repeat (first | (apply Ops_q; (case hon => (first | exact on_none | exact on_guard rfl rfl)); (case hd => rfl); (case hq => exact YlA)) | refine V_seq ?_ | refine V_block ?_ | refine V_region ?_ | refine V_region_still rfl (by kernel_rfl) (by kernel_rfl) ?_ | refine V_skip ?_ | refine V_ret ?_ | refine V_exit ?_ | refine V_true rfl ?_ | refine V_false rfl ?_ | refine then_normal ?_ | refine then_ret ?_ | refine then_exit ?_ | refine block_normal ?_ | refine block_ret ?_ | refine block_hit ?_ | refine block_miss rfl ?_ | refine Ops_end rfl ?_ | (refine Ops_off ?_ rfl ?_; focus (first | exact off_guard rfl rfl rfl | exact off_undef rfl rfl)) | (apply Ops_q0; (case hon => exact on_none); (case hq => exact Yl_assign rfl)))
      refine retR1 (by first | exact .inl rfl | exact .inr rfl) rfl (res_agg rfl k_b2.cells) ?_
      exact Gives_mk (fun w' _ => by rw [hS']) e7
instance eqIf (a b c d e f g h i : Int) : TEqv Try.prog 37 (.agg #[.int .i64 a, .int .u32 b, .int .i64 c, .int .u32 d, .int .u32 e, .int .i64 f, .int .i64 g, .int .i64 h, .int .i64 i]) (.agg #[.int .i64 a, .int .u32 b, .int .i64 c, .int .u32 d, .int .u32 e, .int .i64 f, .int .i64 g, .int .i64 h, .int .i64 i]) true := ⟨fun w => by
  have u3 := Try.underlying3
  have a3 := Try.isAgg3
  have u22 := Try.underlying22
  have a22 : ∀ w, (isAgg 22).run Try.prog w = .ok false w := fun _ => by kernel_rfl
  have u28 := Try.underlying28
  have a28 : ∀ w, (isAgg 28).run Try.prog w = .ok false w := fun _ => by kernel_rfl
  have hS : Try.prog.underlying 35 = some (.struct (Try.prog.fieldsOf 35)) := by kernel_rfl
  have hS2 : Try.prog.underlying 37 = some (.struct (Try.prog.fieldsOf 37)) := by kernel_rfl
  have a5 : ∀ w, (isAgg 35).run Try.prog w = .ok true w := fun _ => by kernel_rfl
  have z5 : Try.prog.cellsOf 35 = 2 := by kernel_rfl
  have hin : ∀ w, (Op.equalIn 9999 35 (.agg #[.int .u32 b, .int .i64 c]) (.agg #[.int .u32 b, .int .i64 c])).run Try.prog w = .ok true w := fun w => by
    show (Op.equalIn (9998 + 1) 35 _ _).run _ _ = _
    rw [run_equalIn_agg w 9998 35 _ _ hS (by kernel_rfl)]
    simp only [Program.fieldsOf, Try.underlying35]
    go_simp
  show (Op.equalIn (9999 + 1) 37 _ _).run _ _ = _
  rw [run_equalIn_agg w 9999 37 _ _ hS2 (by kernel_rfl)]
  simp only [Program.fieldsOf, Try.underlying37]
  go_simp, by kernel_rfl⟩
theorem eq_self1 (a : Int) : decide (a = a) = true := decide_eq_true rfl
theorem eq_selfB (a : Bool) : (a == a) = true := by simp
theorem sameIf_v (s : Ist) (nb : Sl) (A B : List Nf) (w : World) (hA : Nfs w s.nb.ao A) (hB : Nfs w nb.ao B) (h1 : s.nb.n = A.length) (h2 : nb.n = A.length) (h3 : B.length = A.length) (h : ∀ (k : Nat) (x y : Nf), A[k]? = some x → B[k]? = some y → SameN w x y) (hb : A.length ≤ 4611686018427387904) :
    Calls Try.prog 17 #[s.val, Ist.val { s with nb := nb }] w (Ret (.bool true) w) := by
  refine V_enter (vs := [_, _]) Try.func17 rfl Try.ntmps17 (Nat.le_of_ble_eq_true rfl) ?_
  repeat (first | (apply Ops_q; (case hon => (first | exact on_none | exact on_guard rfl rfl)); (case hd => rfl); (case hq => exact YlA)) | refine V_seq ?_ | refine V_block ?_ | refine V_region ?_ | refine V_region_still rfl (by kernel_rfl) (by kernel_rfl) ?_ | refine V_skip ?_ | refine V_ret ?_ | refine V_exit ?_ | refine V_true rfl ?_ | refine V_false rfl ?_ | refine then_normal ?_ | refine then_ret ?_ | refine then_exit ?_ | refine block_normal ?_ | refine block_ret ?_ | refine block_hit ?_ | refine block_miss rfl ?_ | refine Ops_end rfl ?_ | (refine Ops_off ?_ rfl ?_; focus (first | exact off_guard rfl rfl rfl | exact off_undef rfl rfl)) | (apply Ops_q0; (case hon => exact on_none); (case hq => exact Yl_assign rfl)))
  (refine Ops_box (by first | exact on_none | exact on_guard rfl rfl) rfl rfl rfl ?_; intro w1 b1 n_b1; have k_b1 := n_b1.blk)
  repeat (first | (apply Ops_q; (case hon => (first | exact on_none | exact on_guard rfl rfl)); (case hd => rfl); (case hq => exact YlA)) | refine V_seq ?_ | refine V_block ?_ | refine V_region ?_ | refine V_region_still rfl (by kernel_rfl) (by kernel_rfl) ?_ | refine V_skip ?_ | refine V_ret ?_ | refine V_exit ?_ | refine V_true rfl ?_ | refine V_false rfl ?_ | refine then_normal ?_ | refine then_ret ?_ | refine then_exit ?_ | refine block_normal ?_ | refine block_ret ?_ | refine block_hit ?_ | refine block_miss rfl ?_ | refine Ops_end rfl ?_ | (refine Ops_off ?_ rfl ?_; focus (first | exact off_guard rfl rfl rfl | exact off_undef rfl rfl)) | (apply Ops_q0; (case hon => exact on_none); (case hq => exact Yl_assign rfl)))
  (refine Ops_box (by first | exact on_none | exact on_guard rfl rfl) rfl rfl rfl ?_; intro w2 b2 n_b2; have k_b2 := n_b2.blk)
  replace k_b1 := k_b1.ext n_b2.ext
  have e2 := n_b1.ext.trans n_b2.ext
  have p1 : Cells w2 ⟨b1, 0, none⟩ [.int .i64 s.k, .int .u32 s.pa, .int .i64 s.pl, .int .u32 s.ad, .int .u32 s.ar, .int .i64 s.co, .int .i64 s.pr, .int .i64 s.he, .int .i64 s.de] := k_b1.part 0 9
  have p2 : Cells w2 ⟨b2, 0, none⟩ [.int .i64 s.k, .int .u32 s.pa, .int .i64 s.pl, .int .u32 s.ad, .int .u32 s.ar, .int .i64 s.co, .int .i64 s.pr, .int .i64 s.he, .int .i64 s.de] := k_b2.part 0 9
  repeat (first | (apply Ops_q; (case hon => (first | exact on_none | exact on_guard rfl rfl)); (case hd => rfl); (case hq => exact YlA)) | refine V_seq ?_ | refine V_block ?_ | refine V_region ?_ | refine V_region_still rfl (by kernel_rfl) (by kernel_rfl) ?_ | refine V_skip ?_ | refine V_ret ?_ | refine V_exit ?_ | refine V_true rfl ?_ | refine V_false rfl ?_ | refine then_normal ?_ | refine then_ret ?_ | refine then_exit ?_ | refine block_normal ?_ | refine block_ret ?_ | refine block_hit ?_ | refine block_miss rfl ?_ | refine Ops_end rfl ?_ | (refine Ops_off ?_ rfl ?_; focus (first | exact off_guard rfl rfl rfl | exact off_undef rfl rfl)) | (apply Ops_q0; (case hon => exact on_none); (case hq => exact Yl_assign rfl)))
  refine Ops_know rfl rfl (eq_selfB _) ?_
  repeat (first | (apply Ops_q; (case hon => (first | exact on_none | exact on_guard rfl rfl)); (case hd => rfl); (case hq => exact YlA)) | refine V_seq ?_ | refine V_block ?_ | refine V_region ?_ | refine V_region_still rfl (by kernel_rfl) (by kernel_rfl) ?_ | refine V_skip ?_ | refine V_ret ?_ | refine V_exit ?_ | refine V_true rfl ?_ | refine V_false rfl ?_ | refine then_normal ?_ | refine then_ret ?_ | refine then_exit ?_ | refine block_normal ?_ | refine block_ret ?_ | refine block_hit ?_ | refine block_miss rfl ?_ | refine Ops_end rfl ?_ | (refine Ops_off ?_ rfl ?_; focus (first | exact off_guard rfl rfl rfl | exact off_undef rfl rfl)) | (apply Ops_q0; (case hon => exact on_none); (case hq => exact Yl_assign rfl)))
  refine Ops_know rfl rfl (eq_self1 _) ?_
  repeat (first | (apply Ops_q; (case hon => (first | exact on_none | exact on_guard rfl rfl)); (case hd => rfl); (case hq => exact YlA)) | refine V_seq ?_ | refine V_block ?_ | refine V_region ?_ | refine V_region_still rfl (by kernel_rfl) (by kernel_rfl) ?_ | refine V_skip ?_ | refine V_ret ?_ | refine V_exit ?_ | refine V_true rfl ?_ | refine V_false rfl ?_ | refine then_normal ?_ | refine then_ret ?_ | refine then_exit ?_ | refine block_normal ?_ | refine block_ret ?_ | refine block_hit ?_ | refine block_miss rfl ?_ | refine Ops_end rfl ?_ | (refine Ops_off ?_ rfl ?_; focus (first | exact off_guard rfl rfl rfl | exact off_undef rfl rfl)) | (apply Ops_q0; (case hon => exact on_none); (case hq => exact Yl_assign rfl)))
  refine Ops_know rfl rfl (eq_self1 _) ?_
  repeat (first | (apply Ops_q; (case hon => (first | exact on_none | exact on_guard rfl rfl)); (case hd => rfl); (case hq => exact YlA)) | refine V_seq ?_ | refine V_block ?_ | refine V_region ?_ | refine V_region_still rfl (by kernel_rfl) (by kernel_rfl) ?_ | refine V_skip ?_ | refine V_ret ?_ | refine V_exit ?_ | refine V_true rfl ?_ | refine V_false rfl ?_ | refine then_normal ?_ | refine then_ret ?_ | refine then_exit ?_ | refine block_normal ?_ | refine block_ret ?_ | refine block_hit ?_ | refine block_miss rfl ?_ | refine Ops_end rfl ?_ | (refine Ops_off ?_ rfl ?_; focus (first | exact off_guard rfl rfl rfl | exact off_undef rfl rfl)) | (apply Ops_q0; (case hon => exact on_none); (case hq => exact Yl_assign rfl)))
  refine Ops_know rfl rfl (eq_self1 _) ?_
  repeat (first | (apply Ops_q; (case hon => (first | exact on_none | exact on_guard rfl rfl)); (case hd => rfl); (case hq => exact YlA)) | refine V_seq ?_ | refine V_block ?_ | refine V_region ?_ | refine V_region_still rfl (by kernel_rfl) (by kernel_rfl) ?_ | refine V_skip ?_ | refine V_ret ?_ | refine V_exit ?_ | refine V_true rfl ?_ | refine V_false rfl ?_ | refine then_normal ?_ | refine then_ret ?_ | refine then_exit ?_ | refine block_normal ?_ | refine block_ret ?_ | refine block_hit ?_ | refine block_miss rfl ?_ | refine Ops_end rfl ?_ | (refine Ops_off ?_ rfl ?_; focus (first | exact off_guard rfl rfl rfl | exact off_undef rfl rfl)) | (apply Ops_q0; (case hon => exact on_none); (case hq => exact Yl_assign rfl)))
  refine Ops_know rfl rfl (eq_self1 _) ?_
  repeat (first | (apply Ops_q; (case hon => (first | exact on_none | exact on_guard rfl rfl)); (case hd => rfl); (case hq => exact YlA)) | refine V_seq ?_ | refine V_block ?_ | refine V_region ?_ | refine V_region_still rfl (by kernel_rfl) (by kernel_rfl) ?_ | refine V_skip ?_ | refine V_ret ?_ | refine V_exit ?_ | refine V_true rfl ?_ | refine V_false rfl ?_ | refine then_normal ?_ | refine then_ret ?_ | refine then_exit ?_ | refine block_normal ?_ | refine block_ret ?_ | refine block_hit ?_ | refine block_miss rfl ?_ | refine Ops_end rfl ?_ | (refine Ops_off ?_ rfl ?_; focus (first | exact off_guard rfl rfl rfl | exact off_undef rfl rfl)) | (apply Ops_q0; (case hon => exact on_none); (case hq => exact Yl_assign rfl)))
  rw [h1, h2]
  (apply Ops_q; (case hon => (first | exact on_none | exact on_guard rfl rfl)); (case hd => rfl); (case hq => exact Yl_call rfl (fun w_ e_ => sameNeighbors_v s.nb.ao nb.ao A B A.length s.nb.c nb.c w_ (hA.ext (e2.trans e_)) (hB.ext (e2.trans e_)) rfl h3.symm (fun k x y hx hy => (h k x y hx hy).ext (e2.trans e_)) hb)))
  repeat (first | (apply Ops_q; (case hon => (first | exact on_none | exact on_guard rfl rfl)); (case hd => rfl); (case hq => exact YlA)) | refine V_seq ?_ | refine V_block ?_ | refine V_region ?_ | refine V_region_still rfl (by kernel_rfl) (by kernel_rfl) ?_ | refine V_skip ?_ | refine V_ret ?_ | refine V_exit ?_ | refine V_true rfl ?_ | refine V_false rfl ?_ | refine then_normal ?_ | refine then_ret ?_ | refine then_exit ?_ | refine block_normal ?_ | refine block_ret ?_ | refine block_hit ?_ | refine block_miss rfl ?_ | refine Ops_end rfl ?_ | (refine Ops_off ?_ rfl ?_; focus (first | exact off_guard rfl rfl rfl | exact off_undef rfl rfl)) | (apply Ops_q0; (case hon => exact on_none); (case hq => exact Yl_assign rfl)))
  refine ret1 (by first | exact .inl rfl | exact .inr rfl) rfl rfl ?_
  exact Ret_mk rfl e2
theorem SameN.symm {w : World} {x y : Nf} (h : SameN w x y) : SameN w y x := by
  obtain ⟨li, se, re, ua, H1, H2, H3, H4, rfl, h1, h2, h3, h4⟩ := h
  exact ⟨x.li, x.se, x.re, x.ua, H1, H2, H3, H4, rfl, ⟨h1.2.1, h1.1, h1.2.2⟩, ⟨h2.2.1, h2.1, h2.2.2⟩, ⟨h3.2.1, h3.1, h3.2.2⟩, ⟨h4.2.1, h4.1, h4.2.2⟩⟩
theorem runS_nb (s : Ist) (router : Int) (L : List Nf) (nb nb' : Sl) : runS s router L nb' = { runS s router L nb with nb := nb' } := by
  unfold runS
  split <;> rfl
theorem runS_is (s : Ist) (router : Int) (L : List Nf) (nb : Sl) : (runS s router L nb).nb = nb := by
  unfold runS
  split <;> rfl
set_option maxHeartbeats 2000000 in
theorem lawRuns_v (s : Ist) (L : List Nf) (router : Int) (w : World) (hL : Nfs w s.nb.ao L) (hln : s.nb.n = L.length) (hn : L.length * 168 ≤ 140737488351232) (hz : s.nb.ao = none → L = []) (hh : ∀ x ∈ L, HdsOk w x) :
    Calls Try.prog 9 #[s.val, .int .u32 router] w (Ret (.bool true) w) := by
  refine V_enter (vs := [_, _]) Try.func9 rfl Try.ntmps9 (Nat.le_of_ble_eq_true rfl) ?_
  repeat (first | (apply Ops_q; (case hon => (first | exact on_none | exact on_guard rfl rfl)); (case hd => rfl); (case hq => exact YlA)) | refine V_seq ?_ | refine V_block ?_ | refine V_region ?_ | refine V_region_still rfl (by kernel_rfl) (by kernel_rfl) ?_ | refine V_skip ?_ | refine V_ret ?_ | refine V_exit ?_ | refine V_true rfl ?_ | refine V_false rfl ?_ | refine then_normal ?_ | refine then_ret ?_ | refine then_exit ?_ | refine block_normal ?_ | refine block_ret ?_ | refine block_hit ?_ | refine block_miss rfl ?_ | refine Ops_end rfl ?_ | (refine Ops_off ?_ rfl ?_; focus (first | exact off_guard rfl rfl rfl | exact off_undef rfl rfl)) | (apply Ops_q0; (case hon => exact on_none); (case hq => exact Yl_assign rfl)))
  (refine Ops_box (by first | exact on_none | exact on_guard rfl rfl) rfl rfl rfl ?_; intro w1 b1 n_b1; have k_b1 := n_b1.blk)
  repeat (first | (apply Ops_q; (case hon => (first | exact on_none | exact on_guard rfl rfl)); (case hd => rfl); (case hq => exact YlA)) | refine V_seq ?_ | refine V_block ?_ | refine V_region ?_ | refine V_region_still rfl (by kernel_rfl) (by kernel_rfl) ?_ | refine V_skip ?_ | refine V_ret ?_ | refine V_exit ?_ | refine V_true rfl ?_ | refine V_false rfl ?_ | refine then_normal ?_ | refine then_ret ?_ | refine then_exit ?_ | refine block_normal ?_ | refine block_ret ?_ | refine block_hit ?_ | refine block_miss rfl ?_ | refine Ops_end rfl ?_ | (refine Ops_off ?_ rfl ?_; focus (first | exact off_guard rfl rfl rfl | exact off_undef rfl rfl)) | (apply Ops_q0; (case hon => exact on_none); (case hq => exact Yl_assign rfl)))
  refine V_cond rfl (fun h0 => ?_) (fun h0 => ?_)
  · repeat (first | (apply Ops_q; (case hon => (first | exact on_none | exact on_guard rfl rfl)); (case hd => rfl); (case hq => exact YlA)) | refine V_seq ?_ | refine V_block ?_ | refine V_region ?_ | refine V_region_still rfl (by kernel_rfl) (by kernel_rfl) ?_ | refine V_skip ?_ | refine V_ret ?_ | refine V_exit ?_ | refine V_true rfl ?_ | refine V_false rfl ?_ | refine then_normal ?_ | refine then_ret ?_ | refine then_exit ?_ | refine block_normal ?_ | refine block_ret ?_ | refine block_hit ?_ | refine block_miss rfl ?_ | refine Ops_end rfl ?_ | (refine Ops_off ?_ rfl ?_; focus (first | exact off_guard rfl rfl rfl | exact off_undef rfl rfl)) | (apply Ops_q0; (case hon => exact on_none); (case hq => exact Yl_assign rfl)))
    (apply Ops_q; (case hon => (first | exact on_none | exact on_guard rfl rfl)); (case hd => rfl); (case hq => exact Yl_call rfl (fun w_ e_ => lives_v w_)))
    repeat (first | (apply Ops_q; (case hon => (first | exact on_none | exact on_guard rfl rfl)); (case hd => rfl); (case hq => exact YlA)) | refine V_seq ?_ | refine V_block ?_ | refine V_region ?_ | refine V_region_still rfl (by kernel_rfl) (by kernel_rfl) ?_ | refine V_skip ?_ | refine V_ret ?_ | refine V_exit ?_ | refine V_true rfl ?_ | refine V_false rfl ?_ | refine then_normal ?_ | refine then_ret ?_ | refine then_exit ?_ | refine block_normal ?_ | refine block_ret ?_ | refine block_hit ?_ | refine block_miss rfl ?_ | refine Ops_end rfl ?_ | (refine Ops_off ?_ rfl ?_; focus (first | exact off_guard rfl rfl rfl | exact off_undef rfl rfl)) | (apply Ops_q0; (case hon => exact on_none); (case hq => exact Yl_assign rfl)))
    refine ret1 (by first | exact .inl rfl | exact .inr rfl) rfl rfl ?_
    exact Ret_mk rfl n_b1.ext
  repeat (first | (apply Ops_q; (case hon => (first | exact on_none | exact on_guard rfl rfl)); (case hd => rfl); (case hq => exact YlA)) | refine V_seq ?_ | refine V_block ?_ | refine V_region ?_ | refine V_region_still rfl (by kernel_rfl) (by kernel_rfl) ?_ | refine V_skip ?_ | refine V_ret ?_ | refine V_exit ?_ | refine V_true rfl ?_ | refine V_false rfl ?_ | refine then_normal ?_ | refine then_ret ?_ | refine then_exit ?_ | refine block_normal ?_ | refine block_ret ?_ | refine block_hit ?_ | refine block_miss rfl ?_ | refine Ops_end rfl ?_ | (refine Ops_off ?_ rfl ?_; focus (first | exact off_guard rfl rfl rfl | exact off_undef rfl rfl)) | (apply Ops_q0; (case hon => exact on_none); (case hq => exact Yl_assign rfl)))
  refine V_loop (fun k : Nat => [(5, .int .i64 ((k : Int) + 1)), (2, .pointer (some ⟨b1, 0, none⟩)), (1, .int .u32 router)])
    (fun k w' => Ext w w' ∧ Blk w' b1 39 s.cells ∧ (k = 0 ∨ k < L.length) ∧ ∀ (j : Nat) (x y : Nf), j < k → L[j]? = some x → L[j + 1]? = some y → x.r < y.r) (fun k => L.length - k) 0 (by repeat (first | exact trivial | refine ⟨rfl, ?_⟩)) ⟨n_b1.ext, k_b1, .inl rfl, fun j _ _ h => by omega⟩ ?_
  clear k_b1 n_b1
  rintro k w2 ⟨e2, k_b1, hk, hadj⟩
  replace hL := hL.ext e2
  repeat (first | (apply Ops_q; (case hon => (first | exact on_none | exact on_guard rfl rfl)); (case hd => rfl); (case hq => exact YlA)) | refine V_seq ?_ | refine V_block ?_ | refine V_region ?_ | refine V_region_still rfl (by kernel_rfl) (by kernel_rfl) ?_ | refine V_skip ?_ | refine V_ret ?_ | refine V_exit ?_ | refine V_true rfl ?_ | refine V_false rfl ?_ | refine then_normal ?_ | refine then_ret ?_ | refine then_exit ?_ | refine block_normal ?_ | refine block_ret ?_ | refine block_hit ?_ | refine block_miss rfl ?_ | refine Ops_end rfl ?_ | (refine Ops_off ?_ rfl ?_; focus (first | exact off_guard rfl rfl rfl | exact off_undef rfl rfl)) | (apply Ops_q0; (case hon => exact on_none); (case hq => exact Yl_assign rfl)))
  refine V_cond rfl (fun hg => ?_) (fun hg => ?_)
  · replace hg := of_decide_eq_true hg
    have hkl : k + 1 < L.length := by omega
    obtain ⟨x, hx⟩ : ∃ x, L[k]? = some x := ⟨_, List.getElem?_eq_getElem (by omega)⟩
    obtain ⟨y, hy⟩ : ∃ y, L[k + 1]? = some y := ⟨_, List.getElem?_eq_getElem hkl⟩
    obtain ⟨ad, had, hcx⟩ := hL.at hx
    obtain ⟨ad', had', hcy⟩ := hL.at hy
    obtain rfl : ad = ad' := by rw [had] at had'; exact Option.some.inj had'
    have hcx0 : w2.cell? ((ad.add (k * 15)).add 0) = some (.int .u32 x.r) := hcx 0 _ rfl
    have hcy0 : w2.cell? ((ad.add ((k + 1) * 15)).add 0) = some (.int .u32 y.r) := hcy 0 _ rfl
    have hs1 : (k : Int) + 1 - 1 = (k : Int) := by omega
    have k_b2 := k_b1
    unfold Ist.cells at k_b2
    rw [had] at k_b2
    repeat (first | (apply Ops_q; (case hon => (first | exact on_none | exact on_guard rfl rfl)); (case hd => rfl); (case hq => exact YlA)) | refine V_seq ?_ | refine V_block ?_ | refine V_region ?_ | refine V_region_still rfl (by kernel_rfl) (by kernel_rfl) ?_ | refine V_skip ?_ | refine V_ret ?_ | refine V_exit ?_ | refine V_true rfl ?_ | refine V_false rfl ?_ | refine then_normal ?_ | refine then_ret ?_ | refine then_exit ?_ | refine block_normal ?_ | refine block_ret ?_ | refine block_hit ?_ | refine block_miss rfl ?_ | refine Ops_end rfl ?_ | (refine Ops_off ?_ rfl ?_; focus (first | exact off_guard rfl rfl rfl | exact off_undef rfl rfl)) | (apply Ops_q0; (case hon => exact on_none); (case hq => exact Yl_assign rfl)))
    (apply Ops_q; (case hon => (first | exact on_none | exact on_guard rfl rfl)); (case hd => rfl); (case hq => exact Yl_indexS (j := (k+1)) rfl rfl (by omega)))
    repeat (first | (apply Ops_q; (case hon => (first | exact on_none | exact on_guard rfl rfl)); (case hd => rfl); (case hq => exact YlA)) | refine V_seq ?_ | refine V_block ?_ | refine V_region ?_ | refine V_region_still rfl (by kernel_rfl) (by kernel_rfl) ?_ | refine V_skip ?_ | refine V_ret ?_ | refine V_exit ?_ | refine V_true rfl ?_ | refine V_false rfl ?_ | refine then_normal ?_ | refine then_ret ?_ | refine then_exit ?_ | refine block_normal ?_ | refine block_ret ?_ | refine block_hit ?_ | refine block_miss rfl ?_ | refine Ops_end rfl ?_ | (refine Ops_off ?_ rfl ?_; focus (first | exact off_guard rfl rfl rfl | exact off_undef rfl rfl)) | (apply Ops_q0; (case hon => exact on_none); (case hq => exact Yl_assign rfl)))
    rw [hs1]
    (apply Ops_q; (case hon => (first | exact on_none | exact on_guard rfl rfl)); (case hd => rfl); (case hq => exact Yl_indexS (j := k) rfl rfl (by omega)))
    repeat (first | (apply Ops_q; (case hon => (first | exact on_none | exact on_guard rfl rfl)); (case hd => rfl); (case hq => exact YlA)) | refine V_seq ?_ | refine V_block ?_ | refine V_region ?_ | refine V_region_still rfl (by kernel_rfl) (by kernel_rfl) ?_ | refine V_skip ?_ | refine V_ret ?_ | refine V_exit ?_ | refine V_true rfl ?_ | refine V_false rfl ?_ | refine then_normal ?_ | refine then_ret ?_ | refine then_exit ?_ | refine block_normal ?_ | refine block_ret ?_ | refine block_hit ?_ | refine block_miss rfl ?_ | refine Ops_end rfl ?_ | (refine Ops_off ?_ rfl ?_; focus (first | exact off_guard rfl rfl rfl | exact off_undef rfl rfl)) | (apply Ops_q0; (case hon => exact on_none); (case hq => exact Yl_assign rfl)))
    refine V_cond rfl (fun h5 => ?_) (fun h5 => ?_)
    · repeat (first | (apply Ops_q; (case hon => (first | exact on_none | exact on_guard rfl rfl)); (case hd => rfl); (case hq => exact YlA)) | refine V_seq ?_ | refine V_block ?_ | refine V_region ?_ | refine V_region_still rfl (by kernel_rfl) (by kernel_rfl) ?_ | refine V_skip ?_ | refine V_ret ?_ | refine V_exit ?_ | refine V_true rfl ?_ | refine V_false rfl ?_ | refine then_normal ?_ | refine then_ret ?_ | refine then_exit ?_ | refine block_normal ?_ | refine block_ret ?_ | refine block_hit ?_ | refine block_miss rfl ?_ | refine Ops_end rfl ?_ | (refine Ops_off ?_ rfl ?_; focus (first | exact off_guard rfl rfl rfl | exact off_undef rfl rfl)) | (apply Ops_q0; (case hon => exact on_none); (case hq => exact Yl_assign rfl)))
      (apply Ops_q; (case hon => (first | exact on_none | exact on_guard rfl rfl)); (case hd => rfl); (case hq => exact Yl_call rfl (fun w_ e_ => lives_v w_)))
      repeat (first | (apply Ops_q; (case hon => (first | exact on_none | exact on_guard rfl rfl)); (case hd => rfl); (case hq => exact YlA)) | refine V_seq ?_ | refine V_block ?_ | refine V_region ?_ | refine V_region_still rfl (by kernel_rfl) (by kernel_rfl) ?_ | refine V_skip ?_ | refine V_ret ?_ | refine V_exit ?_ | refine V_true rfl ?_ | refine V_false rfl ?_ | refine then_normal ?_ | refine then_ret ?_ | refine then_exit ?_ | refine block_normal ?_ | refine block_ret ?_ | refine block_hit ?_ | refine block_miss rfl ?_ | refine Ops_end rfl ?_ | (refine Ops_off ?_ rfl ?_; focus (first | exact off_guard rfl rfl rfl | exact off_undef rfl rfl)) | (apply Ops_q0; (case hon => exact on_none); (case hq => exact Yl_assign rfl)))
      refine ret1 (by first | exact .inl rfl | exact .inr rfl) rfl rfl ?_
      exact Ret_mk rfl e2
    · have h6 := of_decide_eq_false h5
      repeat (first | (apply Ops_q; (case hon => (first | exact on_none | exact on_guard rfl rfl)); (case hd => rfl); (case hq => exact YlA)) | refine V_seq ?_ | refine V_block ?_ | refine V_region ?_ | refine V_region_still rfl (by kernel_rfl) (by kernel_rfl) ?_ | refine V_skip ?_ | refine V_ret ?_ | refine V_exit ?_ | refine V_true rfl ?_ | refine V_false rfl ?_ | refine then_normal ?_ | refine then_ret ?_ | refine then_exit ?_ | refine block_normal ?_ | refine block_ret ?_ | refine block_hit ?_ | refine block_miss rfl ?_ | refine Ops_end rfl ?_ | (refine Ops_off ?_ rfl ?_; focus (first | exact off_guard rfl rfl rfl | exact off_undef rfl rfl)) | (apply Ops_q0; (case hon => exact on_none); (case hq => exact Yl_assign rfl)))
      refine ⟨k + 1, (by repeat (first | exact trivial | refine ⟨rfl, ?_⟩)), ⟨e2, k_b1, .inr hkl, fun j u v hj hu hv => ?_⟩, by omega⟩
      rcases Nat.lt_or_ge j k with h7 | h7
      · exact hadj j u v h7 hu hv
      · obtain rfl : j = k := by omega
        rw [hx] at hu; cases hu
        rw [hy] at hv; cases hv
        omega
  replace hg := of_decide_eq_false hg
  have hsrt : L.Pairwise (fun x y => x.r < y.r) := adj_pairwise fun j x y hx hy => hadj j x y (by have := (List.getElem?_eq_some_iff.1 hy).1; omega) hx hy
  clear hadj
  repeat (first | (apply Ops_q; (case hon => (first | exact on_none | exact on_guard rfl rfl)); (case hd => rfl); (case hq => exact YlA)) | refine V_seq ?_ | refine V_block ?_ | refine V_region ?_ | refine V_skip ?_ | refine V_ret ?_ | refine V_exit ?_ | refine V_true rfl ?_ | refine V_false rfl ?_ | refine then_normal ?_ | refine then_ret ?_ | refine then_exit ?_ | refine block_normal ?_ | refine block_ret ?_ | refine block_hit ?_ | refine block_miss rfl ?_ | refine Ops_end rfl ?_ | (refine Ops_off ?_ rfl ?_; focus (first | exact off_guard rfl rfl rfl | exact off_undef rfl rfl)) | (apply Ops_q0; (case hon => exact on_none); (case hq => exact Yl_assign rfl)))
  refine V_callC (f := 18) 5 2 (C := Ext w2) (R := fun r w' => ∃ (nb : Sl) (M : List Nf), r = (runS s router L nb).val ∧ Nfs w' nb.ao M ∧ nb.n = L.length ∧ M.length = L.length ∧ ∀ (k : Nat) (x y : Nf), L[k]? = some x → M[k]? = some y → SameN w' x y) (fun _ _ h he => h.trans he) (fun _ he => he)
    (fun _ _ _ he ⟨nb, M, h1, h2, h3, h4, h5⟩ => ⟨nb, M, h1, h2.ext he, h3, h4, fun k x y hx hy => (h5 k x y hx hy).ext he⟩) (by kernel_rfl) rfl (by kernel_rfl) (by rfl) ?_
  refine .cons rfl rfl rfl rfl (fun _ hw => Yl_loadN rfl ((k_b1.ext hw).cells) inferInstance) (.cons rfl rfl rfl rfl (fun _ _ => Yl_move rfl) (.nil rfl ⟨_, rfl, ?_, ?_⟩))
  · exact fun w_ e_ => Calls.mono (run_v s router L w_ (hL.ext e_) hln hn hz (fun x hx => by
      obtain ⟨⟨H1, h1⟩, ⟨H2, h2⟩, ⟨H3, h3⟩, ⟨H4, h4⟩⟩ := hh x hx
      have e := e2.trans e_
      exact ⟨⟨H1, h1.ext e⟩, ⟨H2, h2.ext e⟩, ⟨H3, h3.ext e⟩, ⟨H4, h4.ext e⟩⟩) hsrt) fun e w' ⟨x, hx, he, h1⟩ => ⟨x, hx, e_.trans he, h1⟩
  refine .cons rfl rfl rfl rfl (fun _ hw => Yl_loadN rfl ((k_b1.ext hw).cells) inferInstance) (.cons rfl rfl rfl rfl (fun _ _ => Yl_move rfl) (.nil rfl ?_))
  rintro v w3 e3 ⟨nb, M, rfl, hM, hnn, hMl, hsame⟩
  (refine Ops_callR (by first | exact on_none | exact on_guard rfl rfl) rfl rfl (fun w_ e_ => rrun_v s router L w_ (hL.ext (e3.trans e_)) hln hn) ?_; intro v4 w4 w0_ e0_ e1_ r_v4; have e_w4 := e0_.trans e1_; have b_v4 := e0_.size; clear e0_ e1_)
  subst r_v4
  rw [runS_nb s router L nb s.nb]
  have hb := runS_is s router L nb
  generalize runS s router L nb = S at *
  repeat (first | (apply Ops_q; (case hon => (first | exact on_none | exact on_guard rfl rfl)); (case hd => rfl); (case hq => exact YlA)) | refine V_seq ?_ | refine V_block ?_ | refine V_region ?_ | refine V_region_still rfl (by kernel_rfl) (by kernel_rfl) ?_ | refine V_skip ?_ | refine V_ret ?_ | refine V_exit ?_ | refine V_true rfl ?_ | refine V_false rfl ?_ | refine then_normal ?_ | refine then_ret ?_ | refine then_exit ?_ | refine block_normal ?_ | refine block_ret ?_ | refine block_hit ?_ | refine block_miss rfl ?_ | refine Ops_end rfl ?_ | (refine Ops_off ?_ rfl ?_; focus (first | exact off_guard rfl rfl rfl | exact off_undef rfl rfl)) | (apply Ops_q0; (case hon => exact on_none); (case hq => exact Yl_assign rfl)))
  (apply Ops_q; (case hon => (first | exact on_none | exact on_guard rfl rfl)); (case hd => rfl); (case hq => exact Yl_call rfl (fun w_ e_ => sameIf_v S s.nb M L w_ (by rw [hb]; exact hM.ext (e_w4.trans e_)) (hL.ext (e3.trans (e_w4.trans e_))) (by rw [hb]; omega) (by omega) hMl.symm (fun k x y hx hy ↦ ((hsame k y x hy hx).ext (e_w4.trans e_)).symm) (by omega))))
  repeat (first | (apply Ops_q; (case hon => (first | exact on_none | exact on_guard rfl rfl)); (case hd => rfl); (case hq => exact YlA)) | refine V_seq ?_ | refine V_block ?_ | refine V_region ?_ | refine V_region_still rfl (by kernel_rfl) (by kernel_rfl) ?_ | refine V_skip ?_ | refine V_ret ?_ | refine V_exit ?_ | refine V_true rfl ?_ | refine V_false rfl ?_ | refine then_normal ?_ | refine then_ret ?_ | refine then_exit ?_ | refine block_normal ?_ | refine block_ret ?_ | refine block_hit ?_ | refine block_miss rfl ?_ | refine Ops_end rfl ?_ | (refine Ops_off ?_ rfl ?_; focus (first | exact off_guard rfl rfl rfl | exact off_undef rfl rfl)) | (apply Ops_q0; (case hon => exact on_none); (case hq => exact Yl_assign rfl)))
  (apply Ops_q; (case hon => (first | exact on_none | exact on_guard rfl rfl)); (case hd => rfl); (case hq => exact Yl_call rfl (fun w_ e_ => lives_v w_)))
  repeat (first | (apply Ops_q; (case hon => (first | exact on_none | exact on_guard rfl rfl)); (case hd => rfl); (case hq => exact YlA)) | refine V_seq ?_ | refine V_block ?_ | refine V_region ?_ | refine V_region_still rfl (by kernel_rfl) (by kernel_rfl) ?_ | refine V_skip ?_ | refine V_ret ?_ | refine V_exit ?_ | refine V_true rfl ?_ | refine V_false rfl ?_ | refine then_normal ?_ | refine then_ret ?_ | refine then_exit ?_ | refine block_normal ?_ | refine block_ret ?_ | refine block_hit ?_ | refine block_miss rfl ?_ | refine Ops_end rfl ?_ | (refine Ops_off ?_ rfl ?_; focus (first | exact off_guard rfl rfl rfl | exact off_undef rfl rfl)) | (apply Ops_q0; (case hon => exact on_none); (case hq => exact Yl_assign rfl)))
  refine ret1 (by first | exact .inl rfl | exact .inr rfl) rfl rfl ?_
  exact Ret_mk rfl (e2.trans (e3.trans e_w4))
end Go.Proofs.Ytfakgiikobajnaa

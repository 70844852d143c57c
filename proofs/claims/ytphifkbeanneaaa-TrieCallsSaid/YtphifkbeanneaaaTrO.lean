/-
  Layer 6 (trie): Compare, SameEntries; the order in which entries are put.
  Conditions: addresses are below 2^32.
-/
import Derived.Test.YtphifkbeanneaaaTrQ
namespace Go.Proofs.Ytphifkbeanneaaa
open Go.RowKit

def cmpP (p q : Pf) : Int := if pLt p q then -1 else if p = q then 0 else 1
theorem compare_v (p q : Pf) (w : World) : Calls Try.prog 25 #[p.val, q.val] w (Ret (.int .i64 (cmpP p q)) w) := by
  refine V_enter (vs := [_, _]) Try.func25 rfl Try.ntmps25 (Nat.le_of_ble_eq_true rfl) ?_
  repeat (first | (apply Ops_q; (case hon => (first | exact on_none | exact on_guard rfl rfl)); (case hd => rfl); (case hq => (first | exact Yl_move rfl | exact Yl_assign rfl | exact Yl_pick_true rfl rfl | exact Yl_pick_false rfl rfl | exact Yl_pick rfl rfl rfl | exact Yl_cmp rfl rfl rfl | exact Yl_arith_in rfl rfl rfl (by first | assumption | (simp only [InK]; omega)) | exact Yl_arith rfl rfl rfl | exact Yl_eqb rfl rfl | exact Yl_neb rfl rfl | exact Yl_eqnil rfl rfl | exact Yl_nenil rfl rfl | exact Yl_not rfl | exact Yl_nilCheck rfl | exact Yl_fieldAddr0 rfl | exact Yl_fieldAddr rfl | exact Yl_field1 rfl rfl | exact Yl_fieldN rfl | exact Yl_extract rfl rfl | exact Yl_eqS rfl rfl | exact Yl_neS rfl rfl | exact Yl_build rfl | exact Yl_len rfl | exact Yl_makeFunc rfl rfl | (apply Yl_load; (case hx => rfl); (case hc => (first | assumption | (apply Blk.cell; assumption; rfl) | (apply Blk.cell_add; assumption; rfl)))) | (apply Yl_loadN; (case hx => rfl); (case hc => (first | assumption | (apply Blk.cells; assumption))); (case hn => infer_instance))))) | refine V_seq ?_ | refine V_block ?_ | refine V_region ?_ | refine V_region_still rfl (by kernel_rfl) (by kernel_rfl) ?_ | refine V_skip ?_ | refine V_ret ?_ | refine V_exit ?_ | refine V_true rfl ?_ | refine V_false rfl ?_ | refine then_normal ?_ | refine then_ret ?_ | refine then_exit ?_ | refine block_normal ?_ | refine block_ret ?_ | refine block_hit ?_ | refine block_miss rfl ?_ | refine Ops_end rfl ?_ | (refine Ops_off ?_ rfl ?_; focus (first | exact off_guard rfl rfl rfl | exact off_undef rfl rfl)) | (apply Ops_q0; (case hon => exact on_none); (case hq => exact Yl_assign rfl)))
  (refine Ops_box (by first | exact on_none | exact on_guard rfl rfl) rfl rfl rfl ?_; intro w1 b1 n_b1; have k_b1 := n_b1.blk)
  repeat (first | (apply Ops_q; (case hon => (first | exact on_none | exact on_guard rfl rfl)); (case hd => rfl); (case hq => (first | exact Yl_move rfl | exact Yl_assign rfl | exact Yl_pick_true rfl rfl | exact Yl_pick_false rfl rfl | exact Yl_pick rfl rfl rfl | exact Yl_cmp rfl rfl rfl | exact Yl_arith_in rfl rfl rfl (by first | assumption | (simp only [InK]; omega)) | exact Yl_arith rfl rfl rfl | exact Yl_eqb rfl rfl | exact Yl_neb rfl rfl | exact Yl_eqnil rfl rfl | exact Yl_nenil rfl rfl | exact Yl_not rfl | exact Yl_nilCheck rfl | exact Yl_fieldAddr0 rfl | exact Yl_fieldAddr rfl | exact Yl_field1 rfl rfl | exact Yl_fieldN rfl | exact Yl_extract rfl rfl | exact Yl_eqS rfl rfl | exact Yl_neS rfl rfl | exact Yl_build rfl | exact Yl_len rfl | exact Yl_makeFunc rfl rfl | (apply Yl_load; (case hx => rfl); (case hc => (first | assumption | (apply Blk.cell; assumption; rfl) | (apply Blk.cell_add; assumption; rfl)))) | (apply Yl_loadN; (case hx => rfl); (case hc => (first | assumption | (apply Blk.cells; assumption))); (case hn => infer_instance))))) | refine V_seq ?_ | refine V_block ?_ | refine V_region ?_ | refine V_region_still rfl (by kernel_rfl) (by kernel_rfl) ?_ | refine V_skip ?_ | refine V_ret ?_ | refine V_exit ?_ | refine V_true rfl ?_ | refine V_false rfl ?_ | refine then_normal ?_ | refine then_ret ?_ | refine then_exit ?_ | refine block_normal ?_ | refine block_ret ?_ | refine block_hit ?_ | refine block_miss rfl ?_ | refine Ops_end rfl ?_ | (refine Ops_off ?_ rfl ?_; focus (first | exact off_guard rfl rfl rfl | exact off_undef rfl rfl)) | (apply Ops_q0; (case hon => exact on_none); (case hq => exact Yl_assign rfl)))
  (refine Ops_box (by first | exact on_none | exact on_guard rfl rfl) rfl rfl rfl ?_; intro w2 b2 n_b2; have k_b2 := n_b2.blk)
  replace k_b1 := k_b1.ext n_b2.ext
  have e2 := n_b1.ext.trans n_b2.ext
  repeat (first | (apply Ops_q; (case hon => (first | exact on_none | exact on_guard rfl rfl)); (case hd => rfl); (case hq => (first | exact Yl_move rfl | exact Yl_assign rfl | exact Yl_pick_true rfl rfl | exact Yl_pick_false rfl rfl | exact Yl_pick rfl rfl rfl | exact Yl_cmp rfl rfl rfl | exact Yl_arith_in rfl rfl rfl (by first | assumption | (simp only [InK]; omega)) | exact Yl_arith rfl rfl rfl | exact Yl_eqb rfl rfl | exact Yl_neb rfl rfl | exact Yl_eqnil rfl rfl | exact Yl_nenil rfl rfl | exact Yl_not rfl | exact Yl_nilCheck rfl | exact Yl_fieldAddr0 rfl | exact Yl_fieldAddr rfl | exact Yl_field1 rfl rfl | exact Yl_fieldN rfl | exact Yl_extract rfl rfl | exact Yl_eqS rfl rfl | exact Yl_neS rfl rfl | exact Yl_build rfl | exact Yl_len rfl | exact Yl_makeFunc rfl rfl | (apply Yl_load; (case hx => rfl); (case hc => (first | assumption | (apply Blk.cell; assumption; rfl) | (apply Blk.cell_add; assumption; rfl)))) | (apply Yl_loadN; (case hx => rfl); (case hc => (first | assumption | (apply Blk.cells; assumption))); (case hn => infer_instance))))) | refine V_seq ?_ | refine V_block ?_ | refine V_region ?_ | refine V_region_still rfl (by kernel_rfl) (by kernel_rfl) ?_ | refine V_skip ?_ | refine V_ret ?_ | refine V_exit ?_ | refine V_true rfl ?_ | refine V_false rfl ?_ | refine then_normal ?_ | refine then_ret ?_ | refine then_exit ?_ | refine block_normal ?_ | refine block_ret ?_ | refine block_hit ?_ | refine block_miss rfl ?_ | refine Ops_end rfl ?_ | (refine Ops_off ?_ rfl ?_; focus (first | exact off_guard rfl rfl rfl | exact off_undef rfl rfl)) | (apply Ops_q0; (case hon => exact on_none); (case hq => exact Yl_assign rfl)))
  refine V_cond rfl (fun h1 => ?_) (fun h1 => ?_)
  · have h1' : p.a ≠ q.a := by
      have : ¬((p.a : Int) = (q.a : Int)) := by simpa using h1
      omega
    have hne : p ≠ q := fun e => h1' (by rw [e])
    repeat (first | (apply Ops_q; (case hon => (first | exact on_none | exact on_guard rfl rfl)); (case hd => rfl); (case hq => (first | exact Yl_move rfl | exact Yl_assign rfl | exact Yl_pick_true rfl rfl | exact Yl_pick_false rfl rfl | exact Yl_pick rfl rfl rfl | exact Yl_cmp rfl rfl rfl | exact Yl_arith_in rfl rfl rfl (by first | assumption | (simp only [InK]; omega)) | exact Yl_arith rfl rfl rfl | exact Yl_eqb rfl rfl | exact Yl_neb rfl rfl | exact Yl_eqnil rfl rfl | exact Yl_nenil rfl rfl | exact Yl_not rfl | exact Yl_nilCheck rfl | exact Yl_fieldAddr0 rfl | exact Yl_fieldAddr rfl | exact Yl_field1 rfl rfl | exact Yl_fieldN rfl | exact Yl_extract rfl rfl | exact Yl_eqS rfl rfl | exact Yl_neS rfl rfl | exact Yl_build rfl | exact Yl_len rfl | exact Yl_makeFunc rfl rfl | (apply Yl_load; (case hx => rfl); (case hc => (first | assumption | (apply Blk.cell; assumption; rfl) | (apply Blk.cell_add; assumption; rfl)))) | (apply Yl_loadN; (case hx => rfl); (case hc => (first | assumption | (apply Blk.cells; assumption))); (case hn => infer_instance))))) | refine V_seq ?_ | refine V_block ?_ | refine V_region ?_ | refine V_region_still rfl (by kernel_rfl) (by kernel_rfl) ?_ | refine V_skip ?_ | refine V_ret ?_ | refine V_exit ?_ | refine V_true rfl ?_ | refine V_false rfl ?_ | refine then_normal ?_ | refine then_ret ?_ | refine then_exit ?_ | refine block_normal ?_ | refine block_ret ?_ | refine block_hit ?_ | refine block_miss rfl ?_ | refine Ops_end rfl ?_ | (refine Ops_off ?_ rfl ?_; focus (first | exact off_guard rfl rfl rfl | exact off_undef rfl rfl)) | (apply Ops_q0; (case hon => exact on_none); (case hq => exact Yl_assign rfl)))
    refine V_cond rfl (fun h2 => ?_) (fun h2 => ?_)
    · repeat (first | (apply Ops_q; (case hon => (first | exact on_none | exact on_guard rfl rfl)); (case hd => rfl); (case hq => (first | exact Yl_move rfl | exact Yl_assign rfl | exact Yl_pick_true rfl rfl | exact Yl_pick_false rfl rfl | exact Yl_pick rfl rfl rfl | exact Yl_cmp rfl rfl rfl | exact Yl_arith_in rfl rfl rfl (by first | assumption | (simp only [InK]; omega)) | exact Yl_arith rfl rfl rfl | exact Yl_eqb rfl rfl | exact Yl_neb rfl rfl | exact Yl_eqnil rfl rfl | exact Yl_nenil rfl rfl | exact Yl_not rfl | exact Yl_nilCheck rfl | exact Yl_fieldAddr0 rfl | exact Yl_fieldAddr rfl | exact Yl_field1 rfl rfl | exact Yl_fieldN rfl | exact Yl_extract rfl rfl | exact Yl_eqS rfl rfl | exact Yl_neS rfl rfl | exact Yl_build rfl | exact Yl_len rfl | exact Yl_makeFunc rfl rfl | (apply Yl_load; (case hx => rfl); (case hc => (first | assumption | (apply Blk.cell; assumption; rfl) | (apply Blk.cell_add; assumption; rfl)))) | (apply Yl_loadN; (case hx => rfl); (case hc => (first | assumption | (apply Blk.cells; assumption))); (case hn => infer_instance))))) | refine V_seq ?_ | refine V_block ?_ | refine V_region ?_ | refine V_region_still rfl (by kernel_rfl) (by kernel_rfl) ?_ | refine V_skip ?_ | refine V_ret ?_ | refine V_exit ?_ | refine V_true rfl ?_ | refine V_false rfl ?_ | refine then_normal ?_ | refine then_ret ?_ | refine then_exit ?_ | refine block_normal ?_ | refine block_ret ?_ | refine block_hit ?_ | refine block_miss rfl ?_ | refine Ops_end rfl ?_ | (refine Ops_off ?_ rfl ?_; focus (first | exact off_guard rfl rfl rfl | exact off_undef rfl rfl)) | (apply Ops_q0; (case hon => exact on_none); (case hq => exact Yl_assign rfl)))
      refine ret1 (by first | exact .inl rfl | exact .inr rfl) rfl rfl ?_
      refine Ret_mk ?_ e2
      have : p.a < q.a := by have := of_decide_eq_true h2; omega
      rw [cmpP, if_pos (.inl this)]
    · repeat (first | (apply Ops_q; (case hon => (first | exact on_none | exact on_guard rfl rfl)); (case hd => rfl); (case hq => (first | exact Yl_move rfl | exact Yl_assign rfl | exact Yl_pick_true rfl rfl | exact Yl_pick_false rfl rfl | exact Yl_pick rfl rfl rfl | exact Yl_cmp rfl rfl rfl | exact Yl_arith_in rfl rfl rfl (by first | assumption | (simp only [InK]; omega)) | exact Yl_arith rfl rfl rfl | exact Yl_eqb rfl rfl | exact Yl_neb rfl rfl | exact Yl_eqnil rfl rfl | exact Yl_nenil rfl rfl | exact Yl_not rfl | exact Yl_nilCheck rfl | exact Yl_fieldAddr0 rfl | exact Yl_fieldAddr rfl | exact Yl_field1 rfl rfl | exact Yl_fieldN rfl | exact Yl_extract rfl rfl | exact Yl_eqS rfl rfl | exact Yl_neS rfl rfl | exact Yl_build rfl | exact Yl_len rfl | exact Yl_makeFunc rfl rfl | (apply Yl_load; (case hx => rfl); (case hc => (first | assumption | (apply Blk.cell; assumption; rfl) | (apply Blk.cell_add; assumption; rfl)))) | (apply Yl_loadN; (case hx => rfl); (case hc => (first | assumption | (apply Blk.cells; assumption))); (case hn => infer_instance))))) | refine V_seq ?_ | refine V_block ?_ | refine V_region ?_ | refine V_region_still rfl (by kernel_rfl) (by kernel_rfl) ?_ | refine V_skip ?_ | refine V_ret ?_ | refine V_exit ?_ | refine V_true rfl ?_ | refine V_false rfl ?_ | refine then_normal ?_ | refine then_ret ?_ | refine then_exit ?_ | refine block_normal ?_ | refine block_ret ?_ | refine block_hit ?_ | refine block_miss rfl ?_ | refine Ops_end rfl ?_ | (refine Ops_off ?_ rfl ?_; focus (first | exact off_guard rfl rfl rfl | exact off_undef rfl rfl)) | (apply Ops_q0; (case hon => exact on_none); (case hq => exact Yl_assign rfl)))
      refine ret1 (by first | exact .inl rfl | exact .inr rfl) rfl rfl ?_
      refine Ret_mk ?_ e2
      have : ¬pLt p q := by have := of_decide_eq_false h2; unfold pLt; omega
      rw [cmpP, if_neg this, if_neg hne]
  · have h1' : p.a = q.a := by
      have : (p.a : Int) = (q.a : Int) := by simpa using h1
      omega
    repeat (first | (apply Ops_q; (case hon => (first | exact on_none | exact on_guard rfl rfl)); (case hd => rfl); (case hq => (first | exact Yl_move rfl | exact Yl_assign rfl | exact Yl_pick_true rfl rfl | exact Yl_pick_false rfl rfl | exact Yl_pick rfl rfl rfl | exact Yl_cmp rfl rfl rfl | exact Yl_arith_in rfl rfl rfl (by first | assumption | (simp only [InK]; omega)) | exact Yl_arith rfl rfl rfl | exact Yl_eqb rfl rfl | exact Yl_neb rfl rfl | exact Yl_eqnil rfl rfl | exact Yl_nenil rfl rfl | exact Yl_not rfl | exact Yl_nilCheck rfl | exact Yl_fieldAddr0 rfl | exact Yl_fieldAddr rfl | exact Yl_field1 rfl rfl | exact Yl_fieldN rfl | exact Yl_extract rfl rfl | exact Yl_eqS rfl rfl | exact Yl_neS rfl rfl | exact Yl_build rfl | exact Yl_len rfl | exact Yl_makeFunc rfl rfl | (apply Yl_load; (case hx => rfl); (case hc => (first | assumption | (apply Blk.cell; assumption; rfl) | (apply Blk.cell_add; assumption; rfl)))) | (apply Yl_loadN; (case hx => rfl); (case hc => (first | assumption | (apply Blk.cells; assumption))); (case hn => infer_instance))))) | refine V_seq ?_ | refine V_block ?_ | refine V_region ?_ | refine V_region_still rfl (by kernel_rfl) (by kernel_rfl) ?_ | refine V_skip ?_ | refine V_ret ?_ | refine V_exit ?_ | refine V_true rfl ?_ | refine V_false rfl ?_ | refine then_normal ?_ | refine then_ret ?_ | refine then_exit ?_ | refine block_normal ?_ | refine block_ret ?_ | refine block_hit ?_ | refine block_miss rfl ?_ | refine Ops_end rfl ?_ | (refine Ops_off ?_ rfl ?_; focus (first | exact off_guard rfl rfl rfl | exact off_undef rfl rfl)) | (apply Ops_q0; (case hon => exact on_none); (case hq => exact Yl_assign rfl)))
    refine V_cond rfl (fun h2 => ?_) (fun h2 => ?_)
    · repeat (first | (apply Ops_q; (case hon => (first | exact on_none | exact on_guard rfl rfl)); (case hd => rfl); (case hq => (first | exact Yl_move rfl | exact Yl_assign rfl | exact Yl_pick_true rfl rfl | exact Yl_pick_false rfl rfl | exact Yl_pick rfl rfl rfl | exact Yl_cmp rfl rfl rfl | exact Yl_arith_in rfl rfl rfl (by first | assumption | (simp only [InK]; omega)) | exact Yl_arith rfl rfl rfl | exact Yl_eqb rfl rfl | exact Yl_neb rfl rfl | exact Yl_eqnil rfl rfl | exact Yl_nenil rfl rfl | exact Yl_not rfl | exact Yl_nilCheck rfl | exact Yl_fieldAddr0 rfl | exact Yl_fieldAddr rfl | exact Yl_field1 rfl rfl | exact Yl_fieldN rfl | exact Yl_extract rfl rfl | exact Yl_eqS rfl rfl | exact Yl_neS rfl rfl | exact Yl_build rfl | exact Yl_len rfl | exact Yl_makeFunc rfl rfl | (apply Yl_load; (case hx => rfl); (case hc => (first | assumption | (apply Blk.cell; assumption; rfl) | (apply Blk.cell_add; assumption; rfl)))) | (apply Yl_loadN; (case hx => rfl); (case hc => (first | assumption | (apply Blk.cells; assumption))); (case hn => infer_instance))))) | refine V_seq ?_ | refine V_block ?_ | refine V_region ?_ | refine V_region_still rfl (by kernel_rfl) (by kernel_rfl) ?_ | refine V_skip ?_ | refine V_ret ?_ | refine V_exit ?_ | refine V_true rfl ?_ | refine V_false rfl ?_ | refine then_normal ?_ | refine then_ret ?_ | refine then_exit ?_ | refine block_normal ?_ | refine block_ret ?_ | refine block_hit ?_ | refine block_miss rfl ?_ | refine Ops_end rfl ?_ | (refine Ops_off ?_ rfl ?_; focus (first | exact off_guard rfl rfl rfl | exact off_undef rfl rfl)) | (apply Ops_q0; (case hon => exact on_none); (case hq => exact Yl_assign rfl)))
      refine ret1 (by first | exact .inl rfl | exact .inr rfl) rfl rfl ?_
      refine Ret_mk ?_ e2
      rw [cmpP, if_pos (.inr ⟨h1', of_decide_eq_true h2⟩)]
    · replace h2 := of_decide_eq_false h2
      have hnl : ¬pLt p q := by unfold pLt; omega
      repeat (first | (apply Ops_q; (case hon => (first | exact on_none | exact on_guard rfl rfl)); (case hd => rfl); (case hq => (first | exact Yl_move rfl | exact Yl_assign rfl | exact Yl_pick_true rfl rfl | exact Yl_pick_false rfl rfl | exact Yl_pick rfl rfl rfl | exact Yl_cmp rfl rfl rfl | exact Yl_arith_in rfl rfl rfl (by first | assumption | (simp only [InK]; omega)) | exact Yl_arith rfl rfl rfl | exact Yl_eqb rfl rfl | exact Yl_neb rfl rfl | exact Yl_eqnil rfl rfl | exact Yl_nenil rfl rfl | exact Yl_not rfl | exact Yl_nilCheck rfl | exact Yl_fieldAddr0 rfl | exact Yl_fieldAddr rfl | exact Yl_field1 rfl rfl | exact Yl_fieldN rfl | exact Yl_extract rfl rfl | exact Yl_eqS rfl rfl | exact Yl_neS rfl rfl | exact Yl_build rfl | exact Yl_len rfl | exact Yl_makeFunc rfl rfl | (apply Yl_load; (case hx => rfl); (case hc => (first | assumption | (apply Blk.cell; assumption; rfl) | (apply Blk.cell_add; assumption; rfl)))) | (apply Yl_loadN; (case hx => rfl); (case hc => (first | assumption | (apply Blk.cells; assumption))); (case hn => infer_instance))))) | refine V_seq ?_ | refine V_block ?_ | refine V_region ?_ | refine V_region_still rfl (by kernel_rfl) (by kernel_rfl) ?_ | refine V_skip ?_ | refine V_ret ?_ | refine V_exit ?_ | refine V_true rfl ?_ | refine V_false rfl ?_ | refine then_normal ?_ | refine then_ret ?_ | refine then_exit ?_ | refine block_normal ?_ | refine block_ret ?_ | refine block_hit ?_ | refine block_miss rfl ?_ | refine Ops_end rfl ?_ | (refine Ops_off ?_ rfl ?_; focus (first | exact off_guard rfl rfl rfl | exact off_undef rfl rfl)) | (apply Ops_q0; (case hon => exact on_none); (case hq => exact Yl_assign rfl)))
      refine V_cond rfl (fun h3 => ?_) (fun h3 => ?_)
      · repeat (first | (apply Ops_q; (case hon => (first | exact on_none | exact on_guard rfl rfl)); (case hd => rfl); (case hq => (first | exact Yl_move rfl | exact Yl_assign rfl | exact Yl_pick_true rfl rfl | exact Yl_pick_false rfl rfl | exact Yl_pick rfl rfl rfl | exact Yl_cmp rfl rfl rfl | exact Yl_arith_in rfl rfl rfl (by first | assumption | (simp only [InK]; omega)) | exact Yl_arith rfl rfl rfl | exact Yl_eqb rfl rfl | exact Yl_neb rfl rfl | exact Yl_eqnil rfl rfl | exact Yl_nenil rfl rfl | exact Yl_not rfl | exact Yl_nilCheck rfl | exact Yl_fieldAddr0 rfl | exact Yl_fieldAddr rfl | exact Yl_field1 rfl rfl | exact Yl_fieldN rfl | exact Yl_extract rfl rfl | exact Yl_eqS rfl rfl | exact Yl_neS rfl rfl | exact Yl_build rfl | exact Yl_len rfl | exact Yl_makeFunc rfl rfl | (apply Yl_load; (case hx => rfl); (case hc => (first | assumption | (apply Blk.cell; assumption; rfl) | (apply Blk.cell_add; assumption; rfl)))) | (apply Yl_loadN; (case hx => rfl); (case hc => (first | assumption | (apply Blk.cells; assumption))); (case hn => infer_instance))))) | refine V_seq ?_ | refine V_block ?_ | refine V_region ?_ | refine V_region_still rfl (by kernel_rfl) (by kernel_rfl) ?_ | refine V_skip ?_ | refine V_ret ?_ | refine V_exit ?_ | refine V_true rfl ?_ | refine V_false rfl ?_ | refine then_normal ?_ | refine then_ret ?_ | refine then_exit ?_ | refine block_normal ?_ | refine block_ret ?_ | refine block_hit ?_ | refine block_miss rfl ?_ | refine Ops_end rfl ?_ | (refine Ops_off ?_ rfl ?_; focus (first | exact off_guard rfl rfl rfl | exact off_undef rfl rfl)) | (apply Ops_q0; (case hon => exact on_none); (case hq => exact Yl_assign rfl)))
        refine ret1 (by first | exact .inl rfl | exact .inr rfl) rfl rfl ?_
        refine Ret_mk ?_ e2
        have hne : p ≠ q := fun e => by have := of_decide_eq_true h3; rw [e] at this; omega
        rw [cmpP, if_neg hnl, if_neg hne]
      · repeat (first | (apply Ops_q; (case hon => (first | exact on_none | exact on_guard rfl rfl)); (case hd => rfl); (case hq => (first | exact Yl_move rfl | exact Yl_assign rfl | exact Yl_pick_true rfl rfl | exact Yl_pick_false rfl rfl | exact Yl_pick rfl rfl rfl | exact Yl_cmp rfl rfl rfl | exact Yl_arith_in rfl rfl rfl (by first | assumption | (simp only [InK]; omega)) | exact Yl_arith rfl rfl rfl | exact Yl_eqb rfl rfl | exact Yl_neb rfl rfl | exact Yl_eqnil rfl rfl | exact Yl_nenil rfl rfl | exact Yl_not rfl | exact Yl_nilCheck rfl | exact Yl_fieldAddr0 rfl | exact Yl_fieldAddr rfl | exact Yl_field1 rfl rfl | exact Yl_fieldN rfl | exact Yl_extract rfl rfl | exact Yl_eqS rfl rfl | exact Yl_neS rfl rfl | exact Yl_build rfl | exact Yl_len rfl | exact Yl_makeFunc rfl rfl | (apply Yl_load; (case hx => rfl); (case hc => (first | assumption | (apply Blk.cell; assumption; rfl) | (apply Blk.cell_add; assumption; rfl)))) | (apply Yl_loadN; (case hx => rfl); (case hc => (first | assumption | (apply Blk.cells; assumption))); (case hn => infer_instance))))) | refine V_seq ?_ | refine V_block ?_ | refine V_region ?_ | refine V_region_still rfl (by kernel_rfl) (by kernel_rfl) ?_ | refine V_skip ?_ | refine V_ret ?_ | refine V_exit ?_ | refine V_true rfl ?_ | refine V_false rfl ?_ | refine then_normal ?_ | refine then_ret ?_ | refine then_exit ?_ | refine block_normal ?_ | refine block_ret ?_ | refine block_hit ?_ | refine block_miss rfl ?_ | refine Ops_end rfl ?_ | (refine Ops_off ?_ rfl ?_; focus (first | exact off_guard rfl rfl rfl | exact off_undef rfl rfl)) | (apply Ops_q0; (case hon => exact on_none); (case hq => exact Yl_assign rfl)))
        refine ret1 (by first | exact .inl rfl | exact .inr rfl) rfl rfl ?_
        refine Ret_mk ?_ e2
        have he : p = q := pf_eq h1' (by have := of_decide_eq_false h3; omega)
        rw [cmpP, if_neg hnl, if_pos he]
theorem eqEn_dec (x y : En) : decide ((x.p.a : Int) = (y.p.a : Int) ∧ x.p.n = y.p.n ∧ x.v = y.v) = decide (x = y) := by
  by_cases h : x = y
  · subst h; simp
  · rw [decide_eq_false h, decide_eq_false]
    rintro ⟨h1, h2, h3⟩
    refine h ?_
    have : x.p = y.p := pf_eq (by omega) h2
    cases x; cases y; simp_all
theorem sameEntries_v (ao bo : Option Addr) (A B : List En) (c d : Nat) (w : World) (hA : Ens w ao A) (hB : Ens w bo B) (hn : A.length ≤ 1000000) : Calls Try.prog 21 #[.slice ao A.length c, .slice bo B.length d] w (Ret (.bool (decide (A = B))) w) := by
  refine V_enter (vs := [_, _]) Try.func21 rfl Try.ntmps21 (Nat.le_of_ble_eq_true rfl) ?_
  repeat (first | (apply Ops_q; (case hon => (first | exact on_none | exact on_guard rfl rfl)); (case hd => rfl); (case hq => (first | exact Yl_move rfl | exact Yl_assign rfl | exact Yl_pick_true rfl rfl | exact Yl_pick_false rfl rfl | exact Yl_pick rfl rfl rfl | exact Yl_cmp rfl rfl rfl | exact Yl_arith_in rfl rfl rfl (by first | assumption | (simp only [InK]; omega)) | exact Yl_arith rfl rfl rfl | exact Yl_eqb rfl rfl | exact Yl_neb rfl rfl | exact Yl_eqnil rfl rfl | exact Yl_nenil rfl rfl | exact Yl_not rfl | exact Yl_nilCheck rfl | exact Yl_fieldAddr0 rfl | exact Yl_fieldAddr rfl | exact Yl_field1 rfl rfl | exact Yl_fieldN rfl | exact Yl_extract rfl rfl | exact Yl_eqS rfl rfl | exact Yl_neS rfl rfl | exact Yl_build rfl | exact Yl_len rfl | exact Yl_makeFunc rfl rfl | (apply Yl_load; (case hx => rfl); (case hc => (first | assumption | (apply Blk.cell; assumption; rfl) | (apply Blk.cell_add; assumption; rfl)))) | (apply Yl_loadN; (case hx => rfl); (case hc => (first | assumption | (apply Blk.cells; assumption))); (case hn => infer_instance))))) | refine V_seq ?_ | refine V_block ?_ | refine V_region ?_ | refine V_region_still rfl (by kernel_rfl) (by kernel_rfl) ?_ | refine V_skip ?_ | refine V_ret ?_ | refine V_exit ?_ | refine V_true rfl ?_ | refine V_false rfl ?_ | refine then_normal ?_ | refine then_ret ?_ | refine then_exit ?_ | refine block_normal ?_ | refine block_ret ?_ | refine block_hit ?_ | refine block_miss rfl ?_ | refine Ops_end rfl ?_ | (refine Ops_off ?_ rfl ?_; focus (first | exact off_guard rfl rfl rfl | exact off_undef rfl rfl)) | (apply Ops_q0; (case hon => exact on_none); (case hq => exact Yl_assign rfl)))
  refine V_cond rfl (fun h1 => ?_) (fun h1 => ?_)
  · have hne : A.length ≠ B.length := fun e => by
      have : ¬((A.length : Int) = (B.length : Int)) := by simpa using h1
      omega
    repeat (first | (apply Ops_q; (case hon => (first | exact on_none | exact on_guard rfl rfl)); (case hd => rfl); (case hq => (first | exact Yl_move rfl | exact Yl_assign rfl | exact Yl_pick_true rfl rfl | exact Yl_pick_false rfl rfl | exact Yl_pick rfl rfl rfl | exact Yl_cmp rfl rfl rfl | exact Yl_arith_in rfl rfl rfl (by first | assumption | (simp only [InK]; omega)) | exact Yl_arith rfl rfl rfl | exact Yl_eqb rfl rfl | exact Yl_neb rfl rfl | exact Yl_eqnil rfl rfl | exact Yl_nenil rfl rfl | exact Yl_not rfl | exact Yl_nilCheck rfl | exact Yl_fieldAddr0 rfl | exact Yl_fieldAddr rfl | exact Yl_field1 rfl rfl | exact Yl_fieldN rfl | exact Yl_extract rfl rfl | exact Yl_eqS rfl rfl | exact Yl_neS rfl rfl | exact Yl_build rfl | exact Yl_len rfl | exact Yl_makeFunc rfl rfl | (apply Yl_load; (case hx => rfl); (case hc => (first | assumption | (apply Blk.cell; assumption; rfl) | (apply Blk.cell_add; assumption; rfl)))) | (apply Yl_loadN; (case hx => rfl); (case hc => (first | assumption | (apply Blk.cells; assumption))); (case hn => infer_instance))))) | refine V_seq ?_ | refine V_block ?_ | refine V_region ?_ | refine V_region_still rfl (by kernel_rfl) (by kernel_rfl) ?_ | refine V_skip ?_ | refine V_ret ?_ | refine V_exit ?_ | refine V_true rfl ?_ | refine V_false rfl ?_ | refine then_normal ?_ | refine then_ret ?_ | refine then_exit ?_ | refine block_normal ?_ | refine block_ret ?_ | refine block_hit ?_ | refine block_miss rfl ?_ | refine Ops_end rfl ?_ | (refine Ops_off ?_ rfl ?_; focus (first | exact off_guard rfl rfl rfl | exact off_undef rfl rfl)) | (apply Ops_q0; (case hon => exact on_none); (case hq => exact Yl_assign rfl)))
    refine ret1 (by first | exact .inl rfl | exact .inr rfl) rfl rfl ?_
    exact Ret_mk (by rw [decide_eq_false (fun e => hne (by rw [e]))]) (Ext.refl _)
  have hlen : A.length = B.length := by
    have : (A.length : Int) = (B.length : Int) := by simpa using h1
    omega
  repeat (first | (apply Ops_q; (case hon => (first | exact on_none | exact on_guard rfl rfl)); (case hd => rfl); (case hq => (first | exact Yl_move rfl | exact Yl_assign rfl | exact Yl_pick_true rfl rfl | exact Yl_pick_false rfl rfl | exact Yl_pick rfl rfl rfl | exact Yl_cmp rfl rfl rfl | exact Yl_arith_in rfl rfl rfl (by first | assumption | (simp only [InK]; omega)) | exact Yl_arith rfl rfl rfl | exact Yl_eqb rfl rfl | exact Yl_neb rfl rfl | exact Yl_eqnil rfl rfl | exact Yl_nenil rfl rfl | exact Yl_not rfl | exact Yl_nilCheck rfl | exact Yl_fieldAddr0 rfl | exact Yl_fieldAddr rfl | exact Yl_field1 rfl rfl | exact Yl_fieldN rfl | exact Yl_extract rfl rfl | exact Yl_eqS rfl rfl | exact Yl_neS rfl rfl | exact Yl_build rfl | exact Yl_len rfl | exact Yl_makeFunc rfl rfl | (apply Yl_load; (case hx => rfl); (case hc => (first | assumption | (apply Blk.cell; assumption; rfl) | (apply Blk.cell_add; assumption; rfl)))) | (apply Yl_loadN; (case hx => rfl); (case hc => (first | assumption | (apply Blk.cells; assumption))); (case hn => infer_instance))))) | refine V_seq ?_ | refine V_block ?_ | refine V_region ?_ | refine V_region_still rfl (by kernel_rfl) (by kernel_rfl) ?_ | refine V_skip ?_ | refine V_ret ?_ | refine V_exit ?_ | refine V_true rfl ?_ | refine V_false rfl ?_ | refine then_normal ?_ | refine then_ret ?_ | refine then_exit ?_ | refine block_normal ?_ | refine block_ret ?_ | refine block_hit ?_ | refine block_miss rfl ?_ | refine Ops_end rfl ?_ | (refine Ops_off ?_ rfl ?_; focus (first | exact off_guard rfl rfl rfl | exact off_undef rfl rfl)) | (apply Ops_q0; (case hon => exact on_none); (case hq => exact Yl_assign rfl)))
  refine V_loop (fun k : Nat => [(14, .int .i64 k), (13, .int .i64 A.length), (12, .slice ao A.length c), (1, .slice bo B.length d)]) (fun k w' => Ext w w' ∧ k ≤ A.length ∧ ∀ j, j < k → A[j]? = B[j]?) (fun k => A.length - k) 0 (by repeat (first | exact trivial | refine ⟨rfl, ?_⟩)) ⟨Ext.refl _, Nat.zero_le _, fun j h => by omega⟩ ?_
  rintro k w1 ⟨e1, hk, hs⟩
  repeat (first | (apply Ops_q; (case hon => (first | exact on_none | exact on_guard rfl rfl)); (case hd => rfl); (case hq => (first | exact Yl_move rfl | exact Yl_assign rfl | exact Yl_pick_true rfl rfl | exact Yl_pick_false rfl rfl | exact Yl_pick rfl rfl rfl | exact Yl_cmp rfl rfl rfl | exact Yl_arith_in rfl rfl rfl (by first | assumption | (simp only [InK]; omega)) | exact Yl_arith rfl rfl rfl | exact Yl_eqb rfl rfl | exact Yl_neb rfl rfl | exact Yl_eqnil rfl rfl | exact Yl_nenil rfl rfl | exact Yl_not rfl | exact Yl_nilCheck rfl | exact Yl_fieldAddr0 rfl | exact Yl_fieldAddr rfl | exact Yl_field1 rfl rfl | exact Yl_fieldN rfl | exact Yl_extract rfl rfl | exact Yl_eqS rfl rfl | exact Yl_neS rfl rfl | exact Yl_build rfl | exact Yl_len rfl | exact Yl_makeFunc rfl rfl | (apply Yl_load; (case hx => rfl); (case hc => (first | assumption | (apply Blk.cell; assumption; rfl) | (apply Blk.cell_add; assumption; rfl)))) | (apply Yl_loadN; (case hx => rfl); (case hc => (first | assumption | (apply Blk.cells; assumption))); (case hn => infer_instance))))) | refine V_seq ?_ | refine V_block ?_ | refine V_region ?_ | refine V_region_still rfl (by kernel_rfl) (by kernel_rfl) ?_ | refine V_skip ?_ | refine V_ret ?_ | refine V_exit ?_ | refine V_true rfl ?_ | refine V_false rfl ?_ | refine then_normal ?_ | refine then_ret ?_ | refine then_exit ?_ | refine block_normal ?_ | refine block_ret ?_ | refine block_hit ?_ | refine block_miss rfl ?_ | refine Ops_end rfl ?_ | (refine Ops_off ?_ rfl ?_; focus (first | exact off_guard rfl rfl rfl | exact off_undef rfl rfl)) | (apply Ops_q0; (case hon => exact on_none); (case hq => exact Yl_assign rfl)))
  refine V_cond rfl (fun hg => ?_) (fun hg => ?_)
  · replace hg := of_decide_eq_true hg
    have hkl : k < A.length := by omega
    obtain ⟨x, hx⟩ : ∃ x, A[k]? = some x := ⟨_, List.getElem?_eq_getElem hkl⟩
    obtain ⟨y, hy⟩ : ∃ y, B[k]? = some y := ⟨_, List.getElem?_eq_getElem (by omega)⟩
    obtain ⟨ad, rfl, hc⟩ := hA.at hx
    obtain ⟨bd, rfl, hd⟩ := hB.at hy
    have hc1 : Cells w1 (ad.add (k * 3)) [.int .u32 x.p.a, .int .i64 x.p.n, .int .i64 x.v] := hc.ext e1
    have hkb : k < B.length := by omega
    repeat (first | (apply Ops_q; (case hon => (first | exact on_none | exact on_guard rfl rfl)); (case hd => rfl); (case hq => (first | exact Yl_move rfl | exact Yl_assign rfl | exact Yl_pick_true rfl rfl | exact Yl_pick_false rfl rfl | exact Yl_pick rfl rfl rfl | exact Yl_cmp rfl rfl rfl | exact Yl_arith_in rfl rfl rfl (by first | assumption | (simp only [InK]; omega)) | exact Yl_arith rfl rfl rfl | exact Yl_eqb rfl rfl | exact Yl_neb rfl rfl | exact Yl_eqnil rfl rfl | exact Yl_nenil rfl rfl | exact Yl_not rfl | exact Yl_nilCheck rfl | exact Yl_fieldAddr0 rfl | exact Yl_fieldAddr rfl | exact Yl_field1 rfl rfl | exact Yl_fieldN rfl | exact Yl_extract rfl rfl | exact Yl_eqS rfl rfl | exact Yl_neS rfl rfl | exact Yl_build rfl | exact Yl_len rfl | exact Yl_makeFunc rfl rfl | (apply Yl_load; (case hx => rfl); (case hc => (first | assumption | (apply Blk.cell; assumption; rfl) | (apply Blk.cell_add; assumption; rfl)))) | (apply Yl_loadN; (case hx => rfl); (case hc => (first | assumption | (apply Blk.cells; assumption))); (case hn => infer_instance))))) | refine V_seq ?_ | refine V_block ?_ | refine V_region ?_ | refine V_region_still rfl (by kernel_rfl) (by kernel_rfl) ?_ | refine V_skip ?_ | refine V_ret ?_ | refine V_exit ?_ | refine V_true rfl ?_ | refine V_false rfl ?_ | refine then_normal ?_ | refine then_ret ?_ | refine then_exit ?_ | refine block_normal ?_ | refine block_ret ?_ | refine block_hit ?_ | refine block_miss rfl ?_ | refine Ops_end rfl ?_ | (refine Ops_off ?_ rfl ?_; focus (first | exact off_guard rfl rfl rfl | exact off_undef rfl rfl)) | (apply Ops_q0; (case hon => exact on_none); (case hq => exact Yl_assign rfl)))
    (apply Ops_q; (case hon => (first | exact on_none | exact on_guard rfl rfl)); (case hd => rfl); (case hq => exact Yl_indexS (j := k) rfl rfl (by omega)))
    repeat (first | (apply Ops_q; (case hon => (first | exact on_none | exact on_guard rfl rfl)); (case hd => rfl); (case hq => (first | exact Yl_move rfl | exact Yl_assign rfl | exact Yl_pick_true rfl rfl | exact Yl_pick_false rfl rfl | exact Yl_pick rfl rfl rfl | exact Yl_cmp rfl rfl rfl | exact Yl_arith_in rfl rfl rfl (by first | assumption | (simp only [InK]; omega)) | exact Yl_arith rfl rfl rfl | exact Yl_eqb rfl rfl | exact Yl_neb rfl rfl | exact Yl_eqnil rfl rfl | exact Yl_nenil rfl rfl | exact Yl_not rfl | exact Yl_nilCheck rfl | exact Yl_fieldAddr0 rfl | exact Yl_fieldAddr rfl | exact Yl_field1 rfl rfl | exact Yl_fieldN rfl | exact Yl_extract rfl rfl | exact Yl_eqS rfl rfl | exact Yl_neS rfl rfl | exact Yl_build rfl | exact Yl_len rfl | exact Yl_makeFunc rfl rfl | (apply Yl_load; (case hx => rfl); (case hc => (first | assumption | (apply Blk.cell; assumption; rfl) | (apply Blk.cell_add; assumption; rfl)))) | (apply Yl_loadN; (case hx => rfl); (case hc => (first | assumption | (apply Blk.cells; assumption))); (case hn => infer_instance))))) | refine V_seq ?_ | refine V_block ?_ | refine V_region ?_ | refine V_region_still rfl (by kernel_rfl) (by kernel_rfl) ?_ | refine V_skip ?_ | refine V_ret ?_ | refine V_exit ?_ | refine V_true rfl ?_ | refine V_false rfl ?_ | refine then_normal ?_ | refine then_ret ?_ | refine then_exit ?_ | refine block_normal ?_ | refine block_ret ?_ | refine block_hit ?_ | refine block_miss rfl ?_ | refine Ops_end rfl ?_ | (refine Ops_off ?_ rfl ?_; focus (first | exact off_guard rfl rfl rfl | exact off_undef rfl rfl)) | (apply Ops_q0; (case hon => exact on_none); (case hq => exact Yl_assign rfl)))
    (refine Ops_alloc (by first | exact on_none | exact on_guard rfl rfl) rfl ?_; intro w2 b2 n_b2; have k_b2 := n_b2.blk)
    repeat (first | (apply Ops_q; (case hon => (first | exact on_none | exact on_guard rfl rfl)); (case hd => rfl); (case hq => (first | exact Yl_move rfl | exact Yl_assign rfl | exact Yl_pick_true rfl rfl | exact Yl_pick_false rfl rfl | exact Yl_pick rfl rfl rfl | exact Yl_cmp rfl rfl rfl | exact Yl_arith_in rfl rfl rfl (by first | assumption | (simp only [InK]; omega)) | exact Yl_arith rfl rfl rfl | exact Yl_eqb rfl rfl | exact Yl_neb rfl rfl | exact Yl_eqnil rfl rfl | exact Yl_nenil rfl rfl | exact Yl_not rfl | exact Yl_nilCheck rfl | exact Yl_fieldAddr0 rfl | exact Yl_fieldAddr rfl | exact Yl_field1 rfl rfl | exact Yl_fieldN rfl | exact Yl_extract rfl rfl | exact Yl_eqS rfl rfl | exact Yl_neS rfl rfl | exact Yl_build rfl | exact Yl_len rfl | exact Yl_makeFunc rfl rfl | (apply Yl_load; (case hx => rfl); (case hc => (first | assumption | (apply Blk.cell; assumption; rfl) | (apply Blk.cell_add; assumption; rfl)))) | (apply Yl_loadN; (case hx => rfl); (case hc => (first | assumption | (apply Blk.cells; assumption))); (case hn => infer_instance))))) | refine V_seq ?_ | refine V_block ?_ | refine V_region ?_ | refine V_region_still rfl (by kernel_rfl) (by kernel_rfl) ?_ | refine V_skip ?_ | refine V_ret ?_ | refine V_exit ?_ | refine V_true rfl ?_ | refine V_false rfl ?_ | refine then_normal ?_ | refine then_ret ?_ | refine then_exit ?_ | refine block_normal ?_ | refine block_ret ?_ | refine block_hit ?_ | refine block_miss rfl ?_ | refine Ops_end rfl ?_ | (refine Ops_off ?_ rfl ?_; focus (first | exact off_guard rfl rfl rfl | exact off_undef rfl rfl)) | (apply Ops_q0; (case hon => exact on_none); (case hq => exact Yl_assign rfl)))
    (refine Ops_store (by first | exact on_none | exact on_guard rfl rfl) rfl rfl (by assumption) (by first | rfl | exact OneAll.h) ?_; intro w3 u_w3; have k_b2 := u_w3.blk)
    have e3 := u_w3.below (e1.trans n_b2.ext) (Nat.le_trans e1.size n_b2.ge)
    have hd1 : Cells w3 (bd.add (k * 3)) [.int .u32 y.p.a, .int .i64 y.p.n, .int .i64 y.v] := hd.ext e3
    repeat (first | (apply Ops_q; (case hon => (first | exact on_none | exact on_guard rfl rfl)); (case hd => rfl); (case hq => (first | exact Yl_move rfl | exact Yl_assign rfl | exact Yl_pick_true rfl rfl | exact Yl_pick_false rfl rfl | exact Yl_pick rfl rfl rfl | exact Yl_cmp rfl rfl rfl | exact Yl_arith_in rfl rfl rfl (by first | assumption | (simp only [InK]; omega)) | exact Yl_arith rfl rfl rfl | exact Yl_eqb rfl rfl | exact Yl_neb rfl rfl | exact Yl_eqnil rfl rfl | exact Yl_nenil rfl rfl | exact Yl_not rfl | exact Yl_nilCheck rfl | exact Yl_fieldAddr0 rfl | exact Yl_fieldAddr rfl | exact Yl_field1 rfl rfl | exact Yl_fieldN rfl | exact Yl_extract rfl rfl | exact Yl_eqS rfl rfl | exact Yl_neS rfl rfl | exact Yl_build rfl | exact Yl_len rfl | exact Yl_makeFunc rfl rfl | (apply Yl_load; (case hx => rfl); (case hc => (first | assumption | (apply Blk.cell; assumption; rfl) | (apply Blk.cell_add; assumption; rfl)))) | (apply Yl_loadN; (case hx => rfl); (case hc => (first | assumption | (apply Blk.cells; assumption))); (case hn => infer_instance))))) | refine V_seq ?_ | refine V_block ?_ | refine V_region ?_ | refine V_region_still rfl (by kernel_rfl) (by kernel_rfl) ?_ | refine V_skip ?_ | refine V_ret ?_ | refine V_exit ?_ | refine V_true rfl ?_ | refine V_false rfl ?_ | refine then_normal ?_ | refine then_ret ?_ | refine then_exit ?_ | refine block_normal ?_ | refine block_ret ?_ | refine block_hit ?_ | refine block_miss rfl ?_ | refine Ops_end rfl ?_ | (refine Ops_off ?_ rfl ?_; focus (first | exact off_guard rfl rfl rfl | exact off_undef rfl rfl)) | (apply Ops_q0; (case hon => exact on_none); (case hq => exact Yl_assign rfl)))
    (apply Ops_q; (case hon => (first | exact on_none | exact on_guard rfl rfl)); (case hd => rfl); (case hq => exact Yl_indexS (j := k) rfl rfl (by omega)))
    repeat (first | (apply Ops_q; (case hon => (first | exact on_none | exact on_guard rfl rfl)); (case hd => rfl); (case hq => (first | exact Yl_move rfl | exact Yl_assign rfl | exact Yl_pick_true rfl rfl | exact Yl_pick_false rfl rfl | exact Yl_pick rfl rfl rfl | exact Yl_cmp rfl rfl rfl | exact Yl_arith_in rfl rfl rfl (by first | assumption | (simp only [InK]; omega)) | exact Yl_arith rfl rfl rfl | exact Yl_eqb rfl rfl | exact Yl_neb rfl rfl | exact Yl_eqnil rfl rfl | exact Yl_nenil rfl rfl | exact Yl_not rfl | exact Yl_nilCheck rfl | exact Yl_fieldAddr0 rfl | exact Yl_fieldAddr rfl | exact Yl_field1 rfl rfl | exact Yl_fieldN rfl | exact Yl_extract rfl rfl | exact Yl_eqS rfl rfl | exact Yl_neS rfl rfl | exact Yl_build rfl | exact Yl_len rfl | exact Yl_makeFunc rfl rfl | (apply Yl_load; (case hx => rfl); (case hc => (first | assumption | (apply Blk.cell; assumption; rfl) | (apply Blk.cell_add; assumption; rfl)))) | (apply Yl_loadN; (case hx => rfl); (case hc => (first | assumption | (apply Blk.cells; assumption))); (case hn => infer_instance))))) | refine V_seq ?_ | refine V_block ?_ | refine V_region ?_ | refine V_region_still rfl (by kernel_rfl) (by kernel_rfl) ?_ | refine V_skip ?_ | refine V_ret ?_ | refine V_exit ?_ | refine V_true rfl ?_ | refine V_false rfl ?_ | refine then_normal ?_ | refine then_ret ?_ | refine then_exit ?_ | refine block_normal ?_ | refine block_ret ?_ | refine block_hit ?_ | refine block_miss rfl ?_ | refine Ops_end rfl ?_ | (refine Ops_off ?_ rfl ?_; focus (first | exact off_guard rfl rfl rfl | exact off_undef rfl rfl)) | (apply Ops_q0; (case hon => exact on_none); (case hq => exact Yl_assign rfl)))
    rw [eqEn_dec]
    refine V_cond rfl (fun h2 => ?_) (fun h2 => ?_)
    · have hne : x ≠ y := by simpa using h2
      repeat (first | (apply Ops_q; (case hon => (first | exact on_none | exact on_guard rfl rfl)); (case hd => rfl); (case hq => (first | exact Yl_move rfl | exact Yl_assign rfl | exact Yl_pick_true rfl rfl | exact Yl_pick_false rfl rfl | exact Yl_pick rfl rfl rfl | exact Yl_cmp rfl rfl rfl | exact Yl_arith_in rfl rfl rfl (by first | assumption | (simp only [InK]; omega)) | exact Yl_arith rfl rfl rfl | exact Yl_eqb rfl rfl | exact Yl_neb rfl rfl | exact Yl_eqnil rfl rfl | exact Yl_nenil rfl rfl | exact Yl_not rfl | exact Yl_nilCheck rfl | exact Yl_fieldAddr0 rfl | exact Yl_fieldAddr rfl | exact Yl_field1 rfl rfl | exact Yl_fieldN rfl | exact Yl_extract rfl rfl | exact Yl_eqS rfl rfl | exact Yl_neS rfl rfl | exact Yl_build rfl | exact Yl_len rfl | exact Yl_makeFunc rfl rfl | (apply Yl_load; (case hx => rfl); (case hc => (first | assumption | (apply Blk.cell; assumption; rfl) | (apply Blk.cell_add; assumption; rfl)))) | (apply Yl_loadN; (case hx => rfl); (case hc => (first | assumption | (apply Blk.cells; assumption))); (case hn => infer_instance))))) | refine V_seq ?_ | refine V_block ?_ | refine V_region ?_ | refine V_region_still rfl (by kernel_rfl) (by kernel_rfl) ?_ | refine V_skip ?_ | refine V_ret ?_ | refine V_exit ?_ | refine V_true rfl ?_ | refine V_false rfl ?_ | refine then_normal ?_ | refine then_ret ?_ | refine then_exit ?_ | refine block_normal ?_ | refine block_ret ?_ | refine block_hit ?_ | refine block_miss rfl ?_ | refine Ops_end rfl ?_ | (refine Ops_off ?_ rfl ?_; focus (first | exact off_guard rfl rfl rfl | exact off_undef rfl rfl)) | (apply Ops_q0; (case hon => exact on_none); (case hq => exact Yl_assign rfl)))
      refine ret1 (by first | exact .inl rfl | exact .inr rfl) rfl rfl ?_
      refine Ret_mk ?_ e3
      rw [decide_eq_false]
      intro e
      rw [e, hy] at hx; cases hx
      exact hne rfl
    · have he : x = y := by simpa using h2
      repeat (first | (apply Ops_q; (case hon => (first | exact on_none | exact on_guard rfl rfl)); (case hd => rfl); (case hq => (first | exact Yl_move rfl | exact Yl_assign rfl | exact Yl_pick_true rfl rfl | exact Yl_pick_false rfl rfl | exact Yl_pick rfl rfl rfl | exact Yl_cmp rfl rfl rfl | exact Yl_arith_in rfl rfl rfl (by first | assumption | (simp only [InK]; omega)) | exact Yl_arith rfl rfl rfl | exact Yl_eqb rfl rfl | exact Yl_neb rfl rfl | exact Yl_eqnil rfl rfl | exact Yl_nenil rfl rfl | exact Yl_not rfl | exact Yl_nilCheck rfl | exact Yl_fieldAddr0 rfl | exact Yl_fieldAddr rfl | exact Yl_field1 rfl rfl | exact Yl_fieldN rfl | exact Yl_extract rfl rfl | exact Yl_eqS rfl rfl | exact Yl_neS rfl rfl | exact Yl_build rfl | exact Yl_len rfl | exact Yl_makeFunc rfl rfl | (apply Yl_load; (case hx => rfl); (case hc => (first | assumption | (apply Blk.cell; assumption; rfl) | (apply Blk.cell_add; assumption; rfl)))) | (apply Yl_loadN; (case hx => rfl); (case hc => (first | assumption | (apply Blk.cells; assumption))); (case hn => infer_instance))))) | refine V_seq ?_ | refine V_block ?_ | refine V_region ?_ | refine V_region_still rfl (by kernel_rfl) (by kernel_rfl) ?_ | refine V_skip ?_ | refine V_ret ?_ | refine V_exit ?_ | refine V_true rfl ?_ | refine V_false rfl ?_ | refine then_normal ?_ | refine then_ret ?_ | refine then_exit ?_ | refine block_normal ?_ | refine block_ret ?_ | refine block_hit ?_ | refine block_miss rfl ?_ | refine Ops_end rfl ?_ | (refine Ops_off ?_ rfl ?_; focus (first | exact off_guard rfl rfl rfl | exact off_undef rfl rfl)) | (apply Ops_q0; (case hon => exact on_none); (case hq => exact Yl_assign rfl)))
      refine ⟨k + 1, (by repeat (first | exact trivial | refine ⟨rfl, ?_⟩)), ⟨e3, hkl, fun j hj => ?_⟩, by omega⟩
      rcases Nat.lt_or_ge j k with h3 | h3
      · exact hs j h3
      · obtain rfl : j = k := by omega
        rw [hx, hy, he]
  replace hg := of_decide_eq_false hg
  obtain rfl : k = A.length := by omega
  repeat (first | (apply Ops_q; (case hon => (first | exact on_none | exact on_guard rfl rfl)); (case hd => rfl); (case hq => (first | exact Yl_move rfl | exact Yl_assign rfl | exact Yl_pick_true rfl rfl | exact Yl_pick_false rfl rfl | exact Yl_pick rfl rfl rfl | exact Yl_cmp rfl rfl rfl | exact Yl_arith_in rfl rfl rfl (by first | assumption | (simp only [InK]; omega)) | exact Yl_arith rfl rfl rfl | exact Yl_eqb rfl rfl | exact Yl_neb rfl rfl | exact Yl_eqnil rfl rfl | exact Yl_nenil rfl rfl | exact Yl_not rfl | exact Yl_nilCheck rfl | exact Yl_fieldAddr0 rfl | exact Yl_fieldAddr rfl | exact Yl_field1 rfl rfl | exact Yl_fieldN rfl | exact Yl_extract rfl rfl | exact Yl_eqS rfl rfl | exact Yl_neS rfl rfl | exact Yl_build rfl | exact Yl_len rfl | exact Yl_makeFunc rfl rfl | (apply Yl_load; (case hx => rfl); (case hc => (first | assumption | (apply Blk.cell; assumption; rfl) | (apply Blk.cell_add; assumption; rfl)))) | (apply Yl_loadN; (case hx => rfl); (case hc => (first | assumption | (apply Blk.cells; assumption))); (case hn => infer_instance))))) | refine V_seq ?_ | refine V_block ?_ | refine V_region ?_ | refine V_region_still rfl (by kernel_rfl) (by kernel_rfl) ?_ | refine V_skip ?_ | refine V_ret ?_ | refine V_exit ?_ | refine V_true rfl ?_ | refine V_false rfl ?_ | refine then_normal ?_ | refine then_ret ?_ | refine then_exit ?_ | refine block_normal ?_ | refine block_ret ?_ | refine block_hit ?_ | refine block_miss rfl ?_ | refine Ops_end rfl ?_ | (refine Ops_off ?_ rfl ?_; focus (first | exact off_guard rfl rfl rfl | exact off_undef rfl rfl)) | (apply Ops_q0; (case hon => exact on_none); (case hq => exact Yl_assign rfl)))
  refine ret1 (by first | exact .inl rfl | exact .inr rfl) rfl rfl ?_
  refine Ret_mk ?_ e1
  rw [decide_eq_true]
  refine List.ext_getElem? fun j => ?_
  rcases Nat.lt_or_ge j A.length with h3 | h3
  · exact hs j h3
  · rw [List.getElem?_eq_none h3, List.getElem?_eq_none (by omega)]

/-! ### Put in another order -/
theorem at_setE {E : Nat → Nat → Option Int} {p q : Pf} {v : Int} (hp : p.valid = true) (hq : q.valid = true) : at_ (setE E q v) p = if p = q then some v else at_ E p := by
  rw [at_, setE]
  by_cases h : p = q
  · rw [if_pos h, if_pos (by rw [h]; exact ⟨rfl, rfl⟩)]
  · rw [if_neg h, if_neg (fun h2 => h (at_inj hq hp h2))]
theorem keys_fold {p : Pf} (hp : p.valid = true) : ∀ (F : List En) (s : St), allOk F = true → (at_ (F.foldl putS s).1 p).isNone = ((at_ s.1 p).isNone && !F.any (fun x => decide (x.p = p)))
  | [], s, _ => by simp
  | x :: r, s, h => by
    unfold allOk at h
    rw [List.all_cons, Bool.and_eq_true] at h
    rw [List.foldl_cons, keys_fold hp r _ h.2, List.any_cons]
    unfold putS
    simp only
    rw [at_setE hp h.1]
    by_cases he : p = x.p
    · rw [if_pos he, decide_eq_true he.symm]; simp
    · rw [if_neg he, decide_eq_false (fun e => he e.symm)]; simp
theorem keys_of {F : List En} {p : Pf} (hp : p.valid = true) (hF : allOk F = true) : (at_ (ofS F).1 p).isNone = !F.any (fun x => decide (x.p = p)) := by
  have := keys_fold hp F St.zero hF
  unfold ofS
  rw [this]; rfl
/-- The first entries of each prefix. -/
def firstF (pr : List En) : List En → List En
  | [] => []
  | x :: r => (if pr.any (fun y => decide (y.p = x.p)) then [] else [x]) ++ firstF (pr ++ [x]) r
theorem firstF_append : ∀ (A pr B : List En), firstF pr (A ++ B) = firstF pr A ++ firstF (pr ++ A) B
  | [], pr, B => by simp [firstF]
  | x :: r, pr, B => by simp only [List.cons_append, firstF, firstF_append r (pr ++ [x]) B, List.append_assoc, List.nil_append]
def firsts (F : List En) : List En := firstF [] F
theorem firsts_snoc (F : List En) (x : En) : firsts (F ++ [x]) = firsts F ++ (if F.any (fun y => decide (y.p = x.p)) then [] else [x]) := by
  unfold firsts
  rw [firstF_append]
  simp [firstF]
theorem ofS_snoc' (F : List En) (x : En) : ofS (F ++ [x]) = putS (ofS F) x := by
  unfold ofS
  rw [List.foldl_append]; rfl
theorem en_ind {P : List En → Prop} (h0 : P []) (h1 : ∀ L x, P L → P (L ++ [x])) (L : List En) : P L := by
  have : ∀ M : List En, P M.reverse := fun M => by
    induction M with
    | nil => exact h0
    | cons x r ih => rw [List.reverse_cons]; exact h1 _ _ ih
  simpa using this L.reverse
theorem allOk_snoc {F : List En} {x : En} (h : allOk (F ++ [x]) = true) : allOk F = true ∧ x.p.valid = true := by
  unfold allOk at *
  rw [List.all_append, Bool.and_eq_true] at h
  simpa using h
theorem firsts_spec (F : List En) : allOk F = true → ((ofS F).2 = (firsts F).length ∧ (∀ e ∈ firsts F, e ∈ F) ∧ ∀ p : Pf, (firsts F).any (fun x => decide (x.p = p)) = F.any (fun x => decide (x.p = p))) := by
  induction F using en_ind with
  | h0 => exact fun _ => ⟨rfl, fun e h => by simp [firsts, firstF] at h, fun p => rfl⟩
  | h1 F x ih =>
    intro h
    obtain ⟨h1, h2⟩ := allOk_snoc h
    obtain ⟨i1, i2, i3⟩ := ih h1
    have hk := keys_of h2 h1
    rw [firsts_snoc, ofS_snoc', putS]
    simp only [hk, i1]
    cases ha : F.any (fun y => decide (y.p = x.p)) with
    | true =>
      simp only [if_true, List.append_nil, Bool.not_true, Bool.false_eq_true, if_false]
      refine ⟨trivial, fun e he => List.mem_append_left _ (i2 e he), fun p => ?_⟩
      rw [i3 p, List.any_append]
      simp only [List.any_cons, List.any_nil, Bool.or_false]
      by_cases hp : x.p = p
      · subst hp; rw [ha]; rfl
      · rw [decide_eq_false hp, Bool.or_false]
    | false =>
      simp only [Bool.false_eq_true, if_false, Bool.not_false, if_true]
      refine ⟨by simp, fun e he => ?_, fun p => ?_⟩
      · rcases List.mem_append.1 he with he | he
        · exact List.mem_append_left _ (i2 e he)
        · exact List.mem_append_right _ he
      · rw [List.any_append, List.any_append, i3 p]
theorem same_fold {E : Nat → Nat → Option Int} {p : Pf} (hp : p.valid = true) : ∀ (G : List En) (s : St), allOk G = true → (∀ e ∈ G, at_ E e.p = some e.v) → at_ (G.foldl putS s).1 p = if G.any (fun x => decide (x.p = p)) then at_ E p else at_ s.1 p
  | [], s, _, _ => by simp
  | x :: r, s, h, hE => by
    unfold allOk at h
    rw [List.all_cons, Bool.and_eq_true] at h
    rw [List.foldl_cons, same_fold hp r _ h.2 (fun e he => hE e (List.mem_cons_of_mem _ he)), List.any_cons]
    unfold putS
    simp only
    rw [at_setE hp h.1]
    by_cases he : p = x.p
    · have := hE x (List.mem_cons_self ..)
      rw [← he] at this
      rw [if_pos he, decide_eq_true he.symm, this]
      simp
    · rw [if_neg he, decide_eq_false (fun e => he e.symm)]; simp
/-- An entry with the value that E has. -/
def now (E : Nat → Nat → Option Int) (e : En) : En := ⟨e.p, (getV E e.p).getD 0⟩
theorem order_same {F : List En} (hF : allOk F = true) (ha : ∀ e ∈ F, e.p.a < 4294967296) (G : List En) (hG : G = (firsts F).reverse.map (now (ofS F).1)) : allOk G = true ∧ srtL G = srtL F := by
  obtain ⟨_, s2, s3⟩ := firsts_spec F hF
  have hval : ∀ e ∈ F, e.p.valid = true := fun e he => List.all_eq_true.1 hF e he
  have hm : ∀ e ∈ G, ∃ x ∈ firsts F, e = now (ofS F).1 x := fun e he => by
    rw [hG] at he
    obtain ⟨x, hx, rfl⟩ := List.mem_map.1 he
    exact ⟨x, List.mem_reverse.1 hx, rfl⟩
  have hok : allOk G = true := List.all_eq_true.2 fun e he => by
    obtain ⟨x, hx, rfl⟩ := hm e he
    exact hval x (s2 x hx)
  have haG : ∀ e ∈ G, e.p.a < 4294967296 := fun e he => by
    obtain ⟨x, hx, rfl⟩ := hm e he
    exact ha x (s2 x hx)
  have hE : ∀ e ∈ G, at_ (ofS F).1 e.p = some e.v := fun e he => by
    obtain ⟨x, hx, rfl⟩ := hm e he
    have hv := hval x (s2 x hx)
    have hk := keys_of hv hF
    have : F.any (fun y => decide (y.p = x.p)) = true := List.any_eq_true.2 ⟨x, s2 x hx, decide_eq_true rfl⟩
    rw [this] at hk
    show at_ (ofS F).1 x.p = some ((getV (ofS F).1 x.p).getD 0)
    rw [getV, if_pos hv]
    cases hat : at_ (ofS F).1 x.p with
    | none => rw [hat] at hk; cases hk
    | some v => rfl
  have hany : ∀ p : Pf, G.any (fun x => decide (x.p = p)) = F.any (fun x => decide (x.p = p)) := fun p => by
    rw [← s3 p, hG, List.any_map, List.any_reverse]
    rfl
  obtain ⟨r1, _⟩ := rep_of F hF ha
  obtain ⟨r2, _⟩ := rep_of G hok haG
  refine ⟨hok, srt_eq r2.srt r1.srt fun e => ?_⟩
  have key : ∀ p : Pf, p.valid = true → at_ (ofS G).1 p = at_ (ofS F).1 p := fun p hp => by
    have h1 := same_fold hp G St.zero hok hE
    have h2 := keys_of hp hF
    rw [← hany p] at h2
    unfold ofS at h1 h2 ⊢
    rw [h1]
    cases hg : G.any (fun x => decide (x.p = p)) with
    | true => rfl
    | false =>
      rw [hg] at h2
      cases hat : at_ (List.foldl putS St.zero F).fst p with
      | none => rfl
      | some v => rw [hat] at h2; cases h2
  constructor
  · intro he
    obtain ⟨h1, h2⟩ := r2.ok e he
    have := (r2.mem e h1 h2).1 he
    rw [key e.p h1] at this
    exact (r1.mem e h1 h2).2 this
  · intro he
    obtain ⟨h1, h2⟩ := r1.ok e he
    have := (r1.mem e h1 h2).1 he
    rw [← key e.p h1] at this
    exact (r2.mem e h1 h2).2 this
end Go.Proofs.Ytphifkbeanneaaa

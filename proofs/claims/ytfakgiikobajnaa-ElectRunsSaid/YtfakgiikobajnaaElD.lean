/-
  Layer 27 (elect): the walks of the functions that the statements reach: which candidates are eligible.
  No conditions beyond those that each statement names.
-/
import Derived.Test.YtfakgiikobajnaaElC
namespace Go.Proofs.Ytfakgiikobajnaa
open Go.RowKit

instance (priority := high) tapp_nil (a : List Value) : TApp a [] a := ⟨List.append_nil a⟩
theorem Nbs.of_arr {w : World} {ao : Option Addr} {L : List Nb} (h : Arr w 15 ao (L.map Nb.cells)) : Nbs w ao L := fun k x hk => h k x.cells (by simp [hk])
def met (L : List Nb) (r : Int) : Bool := L.any (fun y => decide (y.r = r))
/-- Is an element taken, behind those of the first list? -/
def eligB (pre : List Nb) (x : Nb) : Bool := !met pre x.r && decide (0 < x.p)
def eligF (pre : List Nb) : List Nb → List Nb
  | [] => []
  | x :: r => (if eligB pre x then [x] else []) ++ eligF (pre ++ [x]) r
def elig (L : List Nb) : List Nb := eligF [] L
theorem eligF_append : ∀ (A pre B : List Nb), eligF pre (A ++ B) = eligF pre A ++ eligF (pre ++ A) B
  | [], pre, B => by simp [eligF]
  | x :: r, pre, B => by simp only [List.cons_append, eligF, eligF_append r (pre ++ [x]) B, List.append_assoc, List.nil_append]
theorem elig_step {L : List Nb} {k : Nat} {x : Nb} (hx : L[k]? = some x) : elig (L.take (k + 1)) = elig (L.take k) ++ (if eligB (L.take k) x then [x] else []) := by
  unfold elig
  rw [List.take_add_one, hx, Option.toList_some, eligF_append]
  simp [eligF]
theorem eligF_len : ∀ (L pre : List Nb), (eligF pre L).length ≤ L.length
  | [], _ => by simp [eligF]
  | x :: r, pre => by
    have := eligF_len r (pre ++ [x])
    simp only [eligF, List.length_append, List.length_cons]
    split <;> simp <;> omega
theorem met_step {L : List Nb} {k : Nat} {x : Nb} (hx : L[k]? = some x) : (fun y' => decide (y' = x.r) || met (L.take k) y') = met (L.take (k + 1)) := by
  funext y
  unfold met
  rw [List.take_add_one, hx, Option.toList_some, List.any_append]
  simp only [List.any_cons, List.any_nil, Bool.or_false]
  rw [Bool.or_comm]
  congr 1
  by_cases h : y = x.r
  · simp [h]
  · rw [decide_eq_false h, decide_eq_false (fun e : x.r = y => h e.symm)]

theorem eligible_v (ao : Option Addr) (L : List Nb) (c : Nat) (w : World) (hL : Nbs w ao L) (hn : L.length * 168 ≤ 140737488355328) :
    Calls Try.prog 20 #[.slice ao L.length c] w (Gives (fun v w' => Own w' w.heap.size 49 15 v ((elig L).map Nb.cells)) w) := by
  refine V_enter (vs := [_]) Try.func20 rfl Try.ntmps20 (Nat.le_of_ble_eq_true rfl) ?_
  repeat (first | (apply Ops_q; (case hon => (first | exact on_none | exact on_guard rfl rfl)); (case hd => rfl); (case hq => exact YlA)) | refine V_seq ?_ | refine V_block ?_ | refine V_region ?_ | refine V_region_still rfl (by kernel_rfl) (by kernel_rfl) ?_ | refine V_skip ?_ | refine V_ret ?_ | refine V_exit ?_ | refine V_true rfl ?_ | refine V_false rfl ?_ | refine then_normal ?_ | refine then_ret ?_ | refine then_exit ?_ | refine block_normal ?_ | refine block_ret ?_ | refine block_hit ?_ | refine block_miss rfl ?_ | refine Ops_end rfl ?_ | (refine Ops_off ?_ rfl ?_; focus (first | exact off_guard rfl rfl rfl | exact off_undef rfl rfl)) | (apply Ops_q0; (case hon => exact on_none); (case hq => exact Yl_assign rfl)))
  (refine Ops_newSet (k := .u32) (by first | exact on_none | exact on_guard rfl rfl) rfl ?_; intro w1 b1 e_w1 g_b1 s_b1)
  have l1 := s_b1.lt
  repeat (first | (apply Ops_q; (case hon => (first | exact on_none | exact on_guard rfl rfl)); (case hd => rfl); (case hq => exact YlA)) | refine V_seq ?_ | refine V_block ?_ | refine V_region ?_ | refine V_region_still rfl (by kernel_rfl) (by kernel_rfl) ?_ | refine V_skip ?_ | refine V_ret ?_ | refine V_exit ?_ | refine V_true rfl ?_ | refine V_false rfl ?_ | refine then_normal ?_ | refine then_ret ?_ | refine then_exit ?_ | refine block_normal ?_ | refine block_ret ?_ | refine block_hit ?_ | refine block_miss rfl ?_ | refine Ops_end rfl ?_ | (refine Ops_off ?_ rfl ?_; focus (first | exact off_guard rfl rfl rfl | exact off_undef rfl rfl)) | (apply Ops_q0; (case hon => exact on_none); (case hq => exact Yl_assign rfl)))
  refine V_loop (fun s : Nat × Value => [(10, .int .i64 s.1), (9, .int .i64 L.length), (8, .slice ao L.length c), (4, .map (some b1)), (3, s.2)])
    (fun s w' => Ext w w' ∧ s.1 ≤ L.length ∧ BSet w' b1 .u32 (met (L.take s.1)) ∧ Own w' w.heap.size 49 15 s.2 ((elig (L.take s.1)).map Nb.cells) ∧ s.2.ownBlock ≠ some b1) (fun s => L.length - s.1) (0, .slice none 0 0)
    (by repeat (first | exact trivial | refine ⟨rfl, ?_⟩)) ⟨e_w1, Nat.zero_le _, s_b1, Own.nil, by intro h; cases h⟩ ?_
  clear s_b1
  rintro ⟨k, v⟩ w3 ⟨e3, hk, s_b1, o_v, hd⟩
  dsimp only at hk s_b1 o_v hd ⊢
  repeat (first | (apply Ops_q; (case hon => (first | exact on_none | exact on_guard rfl rfl)); (case hd => rfl); (case hq => exact YlA)) | refine V_seq ?_ | refine V_block ?_ | refine V_region ?_ | refine V_region_still rfl (by kernel_rfl) (by kernel_rfl) ?_ | refine V_skip ?_ | refine V_ret ?_ | refine V_exit ?_ | refine V_true rfl ?_ | refine V_false rfl ?_ | refine then_normal ?_ | refine then_ret ?_ | refine then_exit ?_ | refine block_normal ?_ | refine block_ret ?_ | refine block_hit ?_ | refine block_miss rfl ?_ | refine Ops_end rfl ?_ | (refine Ops_off ?_ rfl ?_; focus (first | exact off_guard rfl rfl rfl | exact off_undef rfl rfl)) | (apply Ops_q0; (case hon => exact on_none); (case hq => exact Yl_assign rfl)))
  refine V_cond rfl (fun hg => ?_) (fun hg => ?_)
  · replace hg := of_decide_eq_true hg
    have hkl : k < L.length := by omega
    obtain ⟨x, hx⟩ : ∃ x, L[k]? = some x := ⟨_, List.getElem?_eq_getElem hkl⟩
    obtain ⟨ad, rfl, hc⟩ := hL k x hx
    have hstep := elig_step hx
    have hmet := met_step hx
    have hlen : (elig (L.take k)).length ≤ k := Nat.le_trans (eligF_len _ _) (List.length_take_le _ _)
    repeat (first | (apply Ops_q; (case hon => (first | exact on_none | exact on_guard rfl rfl)); (case hd => rfl); (case hq => exact YlA)) | refine V_seq ?_ | refine V_block ?_ | refine V_region ?_ | refine V_region_still rfl (by kernel_rfl) (by kernel_rfl) ?_ | refine V_skip ?_ | refine V_ret ?_ | refine V_exit ?_ | refine V_true rfl ?_ | refine V_false rfl ?_ | refine then_normal ?_ | refine then_ret ?_ | refine then_exit ?_ | refine block_normal ?_ | refine block_ret ?_ | refine block_hit ?_ | refine block_miss rfl ?_ | refine Ops_end rfl ?_ | (refine Ops_off ?_ rfl ?_; focus (first | exact off_guard rfl rfl rfl | exact off_undef rfl rfl)) | (apply Ops_q0; (case hon => exact on_none); (case hq => exact Yl_assign rfl)))
    (apply Ops_q; (case hon => (first | exact on_none | exact on_guard rfl rfl)); (case hd => rfl); (case hq => exact Yl_indexS (j := k) rfl rfl (by omega)))
    repeat (first | (apply Ops_q; (case hon => (first | exact on_none | exact on_guard rfl rfl)); (case hd => rfl); (case hq => exact YlA)) | refine V_seq ?_ | refine V_block ?_ | refine V_region ?_ | refine V_region_still rfl (by kernel_rfl) (by kernel_rfl) ?_ | refine V_skip ?_ | refine V_ret ?_ | refine V_exit ?_ | refine V_true rfl ?_ | refine V_false rfl ?_ | refine then_normal ?_ | refine then_ret ?_ | refine then_exit ?_ | refine block_normal ?_ | refine block_ret ?_ | refine block_hit ?_ | refine block_miss rfl ?_ | refine Ops_end rfl ?_ | (refine Ops_off ?_ rfl ?_; focus (first | exact off_guard rfl rfl rfl | exact off_undef rfl rfl)) | (apply Ops_q0; (case hon => exact on_none); (case hq => exact Yl_assign rfl)))
    (apply Ops_q; (case hon => (first | exact on_none | exact on_guard rfl rfl)); (case hd => rfl); (case hq => exact Yl_loadN rfl (hc.ext e3) inferInstance))
    repeat (first | (apply Ops_q; (case hon => (first | exact on_none | exact on_guard rfl rfl)); (case hd => rfl); (case hq => exact YlA)) | refine V_seq ?_ | refine V_block ?_ | refine V_region ?_ | refine V_region_still rfl (by kernel_rfl) (by kernel_rfl) ?_ | refine V_skip ?_ | refine V_ret ?_ | refine V_exit ?_ | refine V_true rfl ?_ | refine V_false rfl ?_ | refine then_normal ?_ | refine then_ret ?_ | refine then_exit ?_ | refine block_normal ?_ | refine block_ret ?_ | refine block_hit ?_ | refine block_miss rfl ?_ | refine Ops_end rfl ?_ | (refine Ops_off ?_ rfl ?_; focus (first | exact off_guard rfl rfl rfl | exact off_undef rfl rfl)) | (apply Ops_q0; (case hon => exact on_none); (case hq => exact Yl_assign rfl)))
    (refine Ops_alloc (by first | exact on_none | exact on_guard rfl rfl) rfl ?_; intro w4 b4 n_b4; have k_b4 := n_b4.blk)
    have ne4 : v.ownBlock ≠ some b4 := fun e => by have := o_v.lt e; have := n_b4.ge; omega
    have ne14 : b1 ≠ b4 := by have := s_b1.lt; have := n_b4.ge; omega
    replace o_v := o_v.ext n_b4.ext
    replace s_b1 := s_b1.ext n_b4.ext
    have e4 := e3.trans n_b4.ext
    have g4 : w.heap.size ≤ b4 := Nat.le_trans e3.size n_b4.ge
    repeat (first | (apply Ops_q; (case hon => (first | exact on_none | exact on_guard rfl rfl)); (case hd => rfl); (case hq => exact YlA)) | refine V_seq ?_ | refine V_block ?_ | refine V_region ?_ | refine V_region_still rfl (by kernel_rfl) (by kernel_rfl) ?_ | refine V_skip ?_ | refine V_ret ?_ | refine V_exit ?_ | refine V_true rfl ?_ | refine V_false rfl ?_ | refine then_normal ?_ | refine then_ret ?_ | refine then_exit ?_ | refine block_normal ?_ | refine block_ret ?_ | refine block_hit ?_ | refine block_miss rfl ?_ | refine Ops_end rfl ?_ | (refine Ops_off ?_ rfl ?_; focus (first | exact off_guard rfl rfl rfl | exact off_undef rfl rfl)) | (apply Ops_q0; (case hon => exact on_none); (case hq => exact Yl_assign rfl)))
    (refine Ops_store (by first | exact on_none | exact on_guard rfl rfl) rfl rfl (by assumption) (by first | rfl | exact OneAll.h) ?_; intro w5 u_w5; have k_b4 := u_w5.blk)
    replace o_v := o_v.upd u_w5 ne4
    replace s_b1 := s_b1.upd u_w5 ne14
    have e5 := u_w5.below e4 g4
    repeat (first | (apply Ops_q; (case hon => (first | exact on_none | exact on_guard rfl rfl)); (case hd => rfl); (case hq => exact YlA)) | refine V_seq ?_ | refine V_block ?_ | refine V_region ?_ | refine V_region_still rfl (by kernel_rfl) (by kernel_rfl) ?_ | refine V_skip ?_ | refine V_ret ?_ | refine V_exit ?_ | refine V_true rfl ?_ | refine V_false rfl ?_ | refine then_normal ?_ | refine then_ret ?_ | refine then_exit ?_ | refine block_normal ?_ | refine block_ret ?_ | refine block_hit ?_ | refine block_miss rfl ?_ | refine Ops_end rfl ?_ | (refine Ops_off ?_ rfl ?_; focus (first | exact off_guard rfl rfl rfl | exact off_undef rfl rfl)) | (apply Ops_q0; (case hon => exact on_none); (case hq => exact Yl_assign rfl)))
    (apply Ops_q; (case hon => (first | exact on_none | exact on_guard rfl rfl)); (case hd => rfl); (case hq => exact Yl_has rfl rfl (s_b1)))
    repeat (first | (apply Ops_q; (case hon => (first | exact on_none | exact on_guard rfl rfl)); (case hd => rfl); (case hq => exact YlA)) | refine V_seq ?_ | refine V_block ?_ | refine V_region ?_ | refine V_region_still rfl (by kernel_rfl) (by kernel_rfl) ?_ | refine V_skip ?_ | refine V_ret ?_ | refine V_exit ?_ | refine V_true rfl ?_ | refine V_false rfl ?_ | refine then_normal ?_ | refine then_ret ?_ | refine then_exit ?_ | refine block_normal ?_ | refine block_ret ?_ | refine block_hit ?_ | refine block_miss rfl ?_ | refine Ops_end rfl ?_ | (refine Ops_off ?_ rfl ?_; focus (first | exact off_guard rfl rfl rfl | exact off_undef rfl rfl)) | (apply Ops_q0; (case hon => exact on_none); (case hq => exact Yl_assign rfl)))
    refine Ops_meet [(23, .bool (eligB (L.take k) x)), (3, v), (10, .int .i64 k), (9, .int .i64 L.length), (8, .slice (some ad) L.length c), (4, .map (some b1)), (6, .pointer (some ⟨b4, 0, none⟩))] ?_ ?_
    · refine Ops_split rfl rfl (fun h1 => ?_) (fun h1 => ?_)
      · repeat (first | (apply Ops_q; (case hon => (first | exact on_none | exact on_guard rfl rfl)); (case hd => rfl); (case hq => exact YlA)) | refine V_seq ?_ | refine V_block ?_ | refine V_region ?_ | refine V_region_still rfl (by kernel_rfl) (by kernel_rfl) ?_ | refine V_skip ?_ | refine V_ret ?_ | refine V_exit ?_ | refine V_true rfl ?_ | refine V_false rfl ?_ | refine then_normal ?_ | refine then_ret ?_ | refine then_exit ?_ | refine block_normal ?_ | refine block_ret ?_ | refine block_hit ?_ | refine block_miss rfl ?_ | refine Ops_end rfl ?_ | (refine Ops_off ?_ rfl ?_; focus (first | exact off_guard rfl rfl rfl | exact off_undef rfl rfl)) | (apply Ops_q0; (case hon => exact on_none); (case hq => exact Yl_assign rfl)))
        refine ⟨⟨?_, (by repeat (first | exact trivial | refine ⟨rfl, ?_⟩))⟩, rfl⟩
        show some _ = some _
        rw [eligB, h1, Bool.true_and]
      · repeat (first | (apply Ops_q; (case hon => (first | exact on_none | exact on_guard rfl rfl)); (case hd => rfl); (case hq => exact YlA)) | refine V_seq ?_ | refine V_block ?_ | refine V_region ?_ | refine V_region_still rfl (by kernel_rfl) (by kernel_rfl) ?_ | refine V_skip ?_ | refine V_ret ?_ | refine V_exit ?_ | refine V_true rfl ?_ | refine V_false rfl ?_ | refine then_normal ?_ | refine then_ret ?_ | refine then_exit ?_ | refine block_normal ?_ | refine block_ret ?_ | refine block_hit ?_ | refine block_miss rfl ?_ | refine Ops_end rfl ?_ | (refine Ops_off ?_ rfl ?_; focus (first | exact off_guard rfl rfl rfl | exact off_undef rfl rfl)) | (apply Ops_q0; (case hon => exact on_none); (case hq => exact Yl_assign rfl)))
        refine ⟨⟨?_, (by repeat (first | exact trivial | refine ⟨rfl, ?_⟩))⟩, rfl⟩
        show some _ = some _
        rw [eligB, h1, Bool.false_and]
    repeat (first | (apply Ops_q; (case hon => (first | exact on_none | exact on_guard rfl rfl)); (case hd => rfl); (case hq => exact YlA)) | refine V_seq ?_ | refine V_block ?_ | refine V_region ?_ | refine V_region_still rfl (by kernel_rfl) (by kernel_rfl) ?_ | refine V_skip ?_ | refine V_ret ?_ | refine V_exit ?_ | refine V_true rfl ?_ | refine V_false rfl ?_ | refine then_normal ?_ | refine then_ret ?_ | refine then_exit ?_ | refine block_normal ?_ | refine block_ret ?_ | refine block_hit ?_ | refine block_miss rfl ?_ | refine Ops_end rfl ?_ | (refine Ops_off ?_ rfl ?_; focus (first | exact off_guard rfl rfl rfl | exact off_undef rfl rfl)) | (apply Ops_q0; (case hon => exact on_none); (case hq => exact Yl_assign rfl)))
    refine V_meet1 (fun v' : Value => [(3, v'), (10, .int .i64 k), (9, .int .i64 L.length), (8, .slice (some ad) L.length c), (4, .map (some b1)), (6, .pointer (some ⟨b4, 0, none⟩))])
      (fun v' w' => Ext w w' ∧ BSet w' b1 .u32 (met (L.take k)) ∧ Own w' w.heap.size 49 15 v' ((elig (L.take (k + 1))).map Nb.cells) ∧ v'.ownBlock ≠ some b1 ∧ Blk w' b4 31 x.cells) ?_ ?_
    · refine V_cond rfl (fun h2 => ?_) (fun h2 => ?_)
      · repeat (first | (apply Ops_q; (case hon => (first | exact on_none | exact on_guard rfl rfl)); (case hd => rfl); (case hq => exact YlA)) | refine V_seq ?_ | refine V_block ?_ | refine V_region ?_ | refine V_region_still rfl (by kernel_rfl) (by kernel_rfl) ?_ | refine V_skip ?_ | refine V_ret ?_ | refine V_exit ?_ | refine V_true rfl ?_ | refine V_false rfl ?_ | refine then_normal ?_ | refine then_ret ?_ | refine then_exit ?_ | refine block_normal ?_ | refine block_ret ?_ | refine block_hit ?_ | refine block_miss rfl ?_ | refine Ops_end rfl ?_ | (refine Ops_off ?_ rfl ?_; focus (first | exact off_guard rfl rfl rfl | exact off_undef rfl rfl)) | (apply Ops_q0; (case hon => exact on_none); (case hq => exact Yl_assign rfl)))
        (refine Ops_lit (by first | exact on_none | exact on_guard rfl rfl) rfl rfl rfl ?_; intro w6 b6 n_b6; have k_b6 := n_b6.blk)
        replace o_v := o_v.ext n_b6.ext
        replace s_b1 := s_b1.ext n_b6.ext
        replace k_b4 := k_b4.ext n_b6.ext
        have e6 := e5.trans n_b6.ext
        repeat (first | (apply Ops_q; (case hon => (first | exact on_none | exact on_guard rfl rfl)); (case hd => rfl); (case hq => exact YlA)) | refine V_seq ?_ | refine V_block ?_ | refine V_region ?_ | refine V_region_still rfl (by kernel_rfl) (by kernel_rfl) ?_ | refine V_skip ?_ | refine V_ret ?_ | refine V_exit ?_ | refine V_true rfl ?_ | refine V_false rfl ?_ | refine then_normal ?_ | refine then_ret ?_ | refine then_exit ?_ | refine block_normal ?_ | refine block_ret ?_ | refine block_hit ?_ | refine block_miss rfl ?_ | refine Ops_end rfl ?_ | (refine Ops_off ?_ rfl ?_; focus (first | exact off_guard rfl rfl rfl | exact off_undef rfl rfl)) | (apply Ops_q0; (case hon => exact on_none); (case hq => exact Yl_assign rfl)))
        (refine Ops_append1 (by first | exact on_none | exact on_guard rfl rfl) rfl rfl rfl rfl o_v k_b6.cells inferInstance inferInstance (by first | omega | (rw [List.length_map]; omega)) rfl e6.size ?_; intro v' w7 o_v' g_w7 d_v')
        have e7 := grow_below e6 g_w7 (fun b hb => o_v.ge hb)
        repeat (first | (apply Ops_q; (case hon => (first | exact on_none | exact on_guard rfl rfl)); (case hd => rfl); (case hq => exact YlA)) | refine V_seq ?_ | refine V_block ?_ | refine V_region ?_ | refine V_region_still rfl (by kernel_rfl) (by kernel_rfl) ?_ | refine V_skip ?_ | refine V_ret ?_ | refine V_exit ?_ | refine V_true rfl ?_ | refine V_false rfl ?_ | refine then_normal ?_ | refine then_ret ?_ | refine then_exit ?_ | refine block_normal ?_ | refine block_ret ?_ | refine block_hit ?_ | refine block_miss rfl ?_ | refine Ops_end rfl ?_ | (refine Ops_off ?_ rfl ?_; focus (first | exact off_guard rfl rfl rfl | exact off_undef rfl rfl)) | (apply Ops_q0; (case hon => exact on_none); (case hq => exact Yl_assign rfl)))
        refine ⟨v', (by repeat (first | exact trivial | refine ⟨rfl, ?_⟩)), e7, s_b1.grow g_w7 hd.symm, ?_, dis_app d_v' hd s_b1.lt, grow_blk g_w7 k_b4 ne4.symm⟩
        rw [hstep, h2, List.map_append]
        exact o_v'
      · repeat (first | (apply Ops_q; (case hon => (first | exact on_none | exact on_guard rfl rfl)); (case hd => rfl); (case hq => exact YlA)) | refine V_seq ?_ | refine V_block ?_ | refine V_region ?_ | refine V_region_still rfl (by kernel_rfl) (by kernel_rfl) ?_ | refine V_skip ?_ | refine V_ret ?_ | refine V_exit ?_ | refine V_true rfl ?_ | refine V_false rfl ?_ | refine then_normal ?_ | refine then_ret ?_ | refine then_exit ?_ | refine block_normal ?_ | refine block_ret ?_ | refine block_hit ?_ | refine block_miss rfl ?_ | refine Ops_end rfl ?_ | (refine Ops_off ?_ rfl ?_; focus (first | exact off_guard rfl rfl rfl | exact off_undef rfl rfl)) | (apply Ops_q0; (case hon => exact on_none); (case hq => exact Yl_assign rfl)))
        refine ⟨v, (by repeat (first | exact trivial | refine ⟨rfl, ?_⟩)), e5, s_b1, ?_, hd, k_b4⟩
        rw [hstep, h2]
        simpa using o_v
    · rintro v' w6 ⟨e6, s_b1, o_v, hd, k_b4⟩
      repeat (first | (apply Ops_q; (case hon => (first | exact on_none | exact on_guard rfl rfl)); (case hd => rfl); (case hq => exact YlA)) | refine V_seq ?_ | refine V_block ?_ | refine V_region ?_ | refine V_region_still rfl (by kernel_rfl) (by kernel_rfl) ?_ | refine V_skip ?_ | refine V_ret ?_ | refine V_exit ?_ | refine V_true rfl ?_ | refine V_false rfl ?_ | refine then_normal ?_ | refine then_ret ?_ | refine then_exit ?_ | refine block_normal ?_ | refine block_ret ?_ | refine block_hit ?_ | refine block_miss rfl ?_ | refine Ops_end rfl ?_ | (refine Ops_off ?_ rfl ?_; focus (first | exact off_guard rfl rfl rfl | exact off_undef rfl rfl)) | (apply Ops_q0; (case hon => exact on_none); (case hq => exact Yl_assign rfl)))
      (refine Ops_put (by first | exact on_none | exact on_guard rfl rfl) rfl rfl rfl s_b1 ?_; intro w7 g_w7 s_b1)
      have e7 := grow_below e6 g_w7 (fun b hb => by cases hb; exact g_b1)
      repeat (first | (apply Ops_q; (case hon => (first | exact on_none | exact on_guard rfl rfl)); (case hd => rfl); (case hq => exact YlA)) | refine V_seq ?_ | refine V_block ?_ | refine V_region ?_ | refine V_region_still rfl (by kernel_rfl) (by kernel_rfl) ?_ | refine V_skip ?_ | refine V_ret ?_ | refine V_exit ?_ | refine V_true rfl ?_ | refine V_false rfl ?_ | refine then_normal ?_ | refine then_ret ?_ | refine then_exit ?_ | refine block_normal ?_ | refine block_ret ?_ | refine block_hit ?_ | refine block_miss rfl ?_ | refine Ops_end rfl ?_ | (refine Ops_off ?_ rfl ?_; focus (first | exact off_guard rfl rfl rfl | exact off_undef rfl rfl)) | (apply Ops_q0; (case hon => exact on_none); (case hq => exact Yl_assign rfl)))
      refine ⟨(k + 1, v'), (by repeat (first | exact trivial | refine ⟨rfl, ?_⟩)), ⟨e7, hkl, ?_, o_v.grow g_w7 (.inl hd), hd⟩, by simp only; omega⟩
      rw [← hmet]; exact s_b1
  · replace hg := of_decide_eq_false hg
    obtain rfl : k = L.length := by omega
    rw [List.take_length] at o_v
    repeat (first | (apply Ops_q; (case hon => (first | exact on_none | exact on_guard rfl rfl)); (case hd => rfl); (case hq => exact YlA)) | refine V_seq ?_ | refine V_block ?_ | refine V_region ?_ | refine V_region_still rfl (by kernel_rfl) (by kernel_rfl) ?_ | refine V_skip ?_ | refine V_ret ?_ | refine V_exit ?_ | refine V_true rfl ?_ | refine V_false rfl ?_ | refine then_normal ?_ | refine then_ret ?_ | refine then_exit ?_ | refine block_normal ?_ | refine block_ret ?_ | refine block_hit ?_ | refine block_miss rfl ?_ | refine Ops_end rfl ?_ | (refine Ops_off ?_ rfl ?_; focus (first | exact off_guard rfl rfl rfl | exact off_undef rfl rfl)) | (apply Ops_q0; (case hon => exact on_none); (case hq => exact Yl_assign rfl)))
    refine ret1 (by first | exact .inl rfl | exact .inr rfl) rfl rfl ?_
    exact Gives_mk (fun w' h => o_v.ext h) e3
end Go.Proofs.Ytfakgiikobajnaa

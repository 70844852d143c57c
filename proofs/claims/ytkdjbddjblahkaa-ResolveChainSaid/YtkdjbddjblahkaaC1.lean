/-
  A further part of the texts of this seat.
  No conditions beyond those that each lemma states.
-/
import Derived.Test.YtkdjbddjblahkaaB6

/-
  Routes (layer 49), plain: chains of static routes.
-/
namespace Go.Proofs.Ytkdjbddjblahkaa
open Go.RowKit

def chI (w : Int) (i : Nat) : Rt := if i = 0 then ⟨⟨16777216, 8⟩, 1, 0, 0, 0, none, 0, [⟨0, 3, 0, 1, ⟨0, 0⟩⟩]⟩ else ⟨⟨(i + 1) * 16777216, 8⟩, 2, 1, 0, 0, none, 0, [⟨i * 16777216 + 5, -1, 0, w, ⟨0, 0⟩⟩]⟩
/-- A chain of k + 1 routes. -/
structure IsCh (w : Int) (k : Nat) (V : List Rt) : Prop where
  len : V.length = k + 1
  same : ∀ (i : Nat) x, V[i]? = some x → SameR x (chI w i)
def prodW (w : Int) : Nat → Int
  | 0 => 1
  | i + 1 => min (prodW w i * w) 255
theorem prodW_in {w : Int} (hw : 1 ≤ w) : ∀ i, 1 ≤ prodW w i ∧ prodW w i ≤ 255
  | 0 => by unfold prodW; omega
  | i + 1 => by
    have ih := prodW_in hw i
    have h1 : (1 : Int) * 1 ≤ prodW w i * w := Int.mul_le_mul ih.1 hw (by decide) (by omega)
    unfold prodW
    omega
def chH (w : Int) (i : Nat) : Nh := ⟨if i = 0 then 0 else 16777221, 3, 0, prodW w i, ⟨16777216, 8⟩⟩
section
variable {w : Int} {k : Nat} {V : List Rt}
theorem chI_p (w : Int) (i : Nat) : (chI w i).p = ⟨(i + 1) * 16777216, 8⟩ := by
  unfold chI
  split
  · rename_i h; subst h; rfl
  · rfl
theorem chI_proto (w : Int) (i : Nat) : (chI w i).proto = 1 ∨ (chI w i).proto = 2 := by
  unfold chI
  split
  · exact .inl rfl
  · exact .inr rfl
theorem chP_valid {i : Nat} : (⟨(i + 1) * 16777216, 8⟩ : Pf).valid = true := by
  rw [Pf.valid_iff]
  refine ⟨(show (0 : Int) ≤ 8 by decide), (show (8 : Int) ≤ 32 by decide), ?_⟩
  show (i + 1) * 16777216 / 2 ^ (32 - 8) * 2 ^ (32 - 8) = (i + 1) * 16777216
  rw [show (2 : Nat) ^ (32 - 8) = 16777216 from rfl, Nat.mul_div_cancel _ (by decide)]
theorem chP_has {i j : Nat} : (⟨(j + 1) * 16777216, 8⟩ : Pf).has (i * 16777216 + 5) = true ↔ j + 1 = i := by
  unfold Pf.has
  rw [chP_valid, Bool.true_and, decide_eq_true_iff]
  show (i * 16777216 + 5) / 2 ^ (32 - 8) * 2 ^ (32 - 8) = (j + 1) * 16777216 ↔ j + 1 = i
  rw [show (2 : Nat) ^ (32 - 8) = 16777216 from rfl]
  omega
theorem errT_same {r s : Rt} (h : SameR r s) : errT r = errT s := by
  obtain ⟨h1, h2, h3, h4, h5, h6⟩ := h
  cases r; cases s
  simp only at h1 h2 h3 h4 h5 h6
  subst h1; subst h2; subst h3; subst h4; subst h5; subst h6
  rfl
theorem chI_ok (hw : 1 ≤ w ∧ w ≤ 3) (i : Nat) : errT (chI w i) = 0 := by
  have hv : (chI w i).p.valid = true := by rw [chI_p]; exact chP_valid
  have hk : ¬badK (chI w i) := by
    unfold badK
    rcases chI_proto w i with h | h <;> rw [h] <;> decide
  have hn : ¬badN (chI w i) := by
    unfold chI
    split <;> (unfold badN; simp)
  have hl : ∃ h, (chI w i).hops = [h] ∧ ¬badH h ∧ h.via = ⟨0, 0⟩ := by
    unfold chI
    split
    · exact ⟨_, rfl, by decide, rfl⟩
    · refine ⟨_, rfl, ?_, rfl⟩
      unfold badH
      dsimp only
      omega
  obtain ⟨h, e1, e2, e3⟩ := hl
  rw [errT_h hv hk hn (by rw [e1]; simp), e1]
  have h0 : errH [h] 0 = 0 := errH_zero (h := h) rfl e2 (by rw [e3]; rfl) rfl
  exact firstE_all fun j hj => by
    have : j = 0 := by simpa using hj
    subst this; exact h0
theorem IsCh.p (h : IsCh w k V) {i : Nat} {x : Rt} (hx : V[i]? = some x) : x.p = ⟨(i + 1) * 16777216, 8⟩ := by rw [(h.same i x hx).p, chI_p]
theorem IsCh.ne (h : IsCh w k V) {i j : Nat} {x y : Rt} (hx : V[i]? = some x) (hy : V[j]? = some y) (e : x.p = y.p) : i = j := by
  rw [h.p hx, h.p hy] at e
  have := congrArg Pf.a e
  simp only at this
  omega
theorem IsCh.ok (h : IsCh w k V) (hw : 1 ≤ w ∧ w ≤ 3) {i : Nat} {x : Rt} (hx : V[i]? = some x) : errT x = 0 := by rw [errT_same (h.same i x hx)]; exact chI_ok hw i
theorem IsCh.act (h : IsCh w k V) (hw : 1 ≤ w ∧ w ≤ 3) (hk : k ≤ 23) : Actv V := by
  have hl := h.len
  refine ⟨?_, fun j hj => ?_⟩
  · unfold chkR
    rw [if_neg (by omega)]
    refine firstE_all fun j hj => ?_
    obtain ⟨x, hx⟩ : ∃ x, V[j]? = some x := ⟨_, List.getElem?_eq_getElem hj⟩
    have hno : hasK (V.take j) x.p x.proto = false := by
      refine bool_no hasK_iff ?_
      rintro ⟨r, h1, h2, _⟩
      obtain ⟨i, hi, e⟩ := List.getElem_of_mem h1
      rw [List.length_take] at hi
      have hri : V[i]? = some r := by rw [← e, List.getElem_take]; exact List.getElem?_eq_getElem (by omega)
      have := h.ne hri hx h2
      omega
    cases j with
    | zero => exact errC_zero hx (h.ok hw hx) hno rfl
    | succ j =>
      obtain ⟨g, hg⟩ : ∃ x, V[j]? = some x := ⟨_, List.getElem?_eq_getElem (by omega)⟩
      refine errC_ok hx (by rw [Nat.add_sub_cancel]; exact hg) (h.ok hw hx) hno ?_
      have hlt : cmpP g.p x.p < 0 := by
        rw [cmpP_neg, h.p hg, h.p hx]
        dsimp only
        omega
      unfold cmpR
      rw [or3_a (by omega)]
      omega
  · cases j with
    | zero => exact dupB_zero V
    | succ j =>
      obtain ⟨x, hx⟩ : ∃ x, V[j + 1]? = some x := ⟨_, List.getElem?_eq_getElem hj⟩
      obtain ⟨g, hg⟩ : ∃ x, V[j]? = some x := ⟨_, List.getElem?_eq_getElem (by omega)⟩
      rw [dupB_at (by rw [Nat.add_sub_cancel]; exact hg) hx]
      refine decide_eq_false fun h2 => ?_
      have := h.ne hg hx h2.2
      omega
theorem IsCh.hop (h : IsCh w k V) {i : Nat} {x : Rt} (hx : V[i + 1]? = some x) : x.hops = [⟨(i + 1) * 16777216 + 5, -1, 0, w, ⟨0, 0⟩⟩] := by
  rw [(h.same _ x hx).hops]
  unfold chI
  rw [if_neg (Nat.succ_ne_zero i)]
theorem IsCh.hop0 (h : IsCh w k V) {x : Rt} (hx : V[0]? = some x) : x.hops = [⟨0, 3, 0, 1, ⟨0, 0⟩⟩] := by
  rw [(h.same _ x hx).hops]
  rfl
theorem IsCh.next (h : IsCh w k V) {i : Nat} {x : Rt} (hx : V[i + 1]? = some x) : nxI V ⟨(i + 1) * 16777216 + 5, -1, 0, w, ⟨0, 0⟩⟩ = some i := by
  have hl := (List.getElem?_eq_some_iff.1 hx).1
  obtain ⟨g, hg⟩ : ∃ x, V[i]? = some x := ⟨_, List.getElem?_eq_getElem (by omega)⟩
  unfold nxI
  rw [if_pos rfl]
  refine lg_only hg ?_ ?_ fun j s hs hh => ?_
  · rw [h.p hg]; exact chP_has.2 rfl
  · unfold isV
    rw [(h.same i g hg).proto]
    rcases chI_proto w i with e | e <;> rw [e] <;> decide
  · rw [h.p hs] at hh
    have := chP_has.1 hh
    omega
theorem IsCh.kid (h : IsCh w k V) {i j : Nat} (hj : j ∈ kids V i) : j + 1 = i := by
  obtain ⟨r, x, h1, h2, h3⟩ := kids_mem.1 hj
  cases i with
  | zero =>
    rw [h.hop0 h1] at h2
    rw [List.mem_singleton.1 h2] at h3
    unfold nxI at h3
    rw [if_neg (by decide)] at h3
    cases h3
  | succ i =>
    rw [h.hop h1] at h2
    rw [List.mem_singleton.1 h2, h.next h1] at h3
    cases h3; rfl
theorem IsCh.rch (h : IsCh w k V) {i j : Nat} (hr : Rch V i j) : j < i := by
  induction hr with
  | one h1 => have := h.kid h1; omega
  | step h1 _ ih => have := h.kid h1; omega
theorem IsCh.noloop (h : IsCh w k V) {i : Nat} {x : Rt} (hx : V[i + 1]? = some x) : loopsB V i x = false := loopsB_no fun ⟨j, h1, s, h2, h3⟩ => by
  have h4 := h.ne h2 hx (samR_iff.1 h3).1
  rcases h1 with h1 | h1
  · omega
  · have := h.rch h1; omega
theorem IsCh.depV (h : IsCh w k V) : ∀ (i : Nat), i ≤ k → dep V i = i
  | 0, hi => by
    obtain ⟨x, hx⟩ : ∃ x, V[0]? = some x := ⟨_, List.getElem?_eq_getElem (by rw [h.len]; omega)⟩
    rw [dep_eq hx, h.hop0 hx]
    rfl
  | i + 1, hi => by
    obtain ⟨x, hx⟩ : ∃ x, V[i + 1]? = some x := ⟨_, List.getElem?_eq_getElem (by rw [h.len]; omega)⟩
    have ih := h.depV i (by omega)
    rw [dep_eq hx, h.hop hx, List.foldl_cons, List.foldl_nil, depS, h.next hx]
    dsimp only
    rw [h.noloop hx, if_neg (by decide), ih]
    omega
theorem IsCh.rouV (h : IsCh w k V) (hw : 1 ≤ w ∧ w ≤ 3) : ∀ (i : Nat) (x : Rt), i ≤ 16 → V[i]? = some x → rou cbS V x = (0, [chH w i])
  | 0, x, _, hx => by
    rw [rou_known (fun y hy => by rw [h.hop0 hx] at hy; rw [List.mem_singleton.1 hy]; decide), h.hop0 hx, h.p hx]
    rfl
  | i + 1, x, hi, hx => by
    have hl := (List.getElem?_eq_some_iff.1 hx).1
    have hlen := h.len
    obtain ⟨g, hg⟩ : ∃ x, V[i]? = some x := ⟨_, List.getElem?_eq_getElem (by omega)⟩
    have ih := h.rouV hw i g (by omega) hg
    rw [rou_next (h.hop hx) (by dsimp only; omega) (h.next hx) (h.noloop hx) (by rw [h.depV i (by omega)]; omega) hg ih (by simp)]
    rw [List.map_cons, List.map_nil, show cbS [orH _ (chH w i)] = [orH _ (chH w i)] from rfl]
    refine congrArg (fun z => ((0 : Int), [z])) ?_
    unfold orH chH
    rw [prodW]
    cases i with
    | zero => rfl
    | succ i => rfl
theorem IsCh.deep (h : IsCh w k V) {i : Nat} {x : Rt} (hi : 16 ≤ i) (hx : V[i + 1]? = some x) : rou cbS V x = (24, []) := by
  have hl := (List.getElem?_eq_some_iff.1 hx).1
  have hlen := h.len
  exact rou_err (h.hop hx) (hopR_deep (by dsimp only; omega) (h.next hx) (h.noloop hx) (by rw [h.depV i (by omega)]; omega))
theorem IsCh.hops (h : IsCh w k V) (hw : 1 ≤ w ∧ w ≤ 3) (hk : k ≤ 23) {x : Rt} (hx : V[k]? = some x) : hopsV V x = if 16 < k then (24, []) else (0, [chH w k]) := by
  unfold hopsV
  rw [if_neg (fun h2 => h2 ((chkR_one x).trans (h.ok hw hx))), actL_yes (h.act hw hk)]
  split
  · obtain ⟨i, rfl⟩ : ∃ i, k = i + 1 := ⟨k - 1, by omega⟩
    exact h.deep (by omega) hx
  · exact h.rouV hw k x (by omega) hx
theorem IsCh.one {x : Rt} (h : SameR x (chI w 0)) : IsCh w 0 [x] := ⟨rfl, fun i y hy => by
  cases i with
  | zero => simp at hy; subst hy; exact h
  | succ i => simp at hy⟩
theorem IsCh.add {x : Rt} (h : IsCh w k V) (hx : SameR x (chI w (k + 1))) : IsCh w (k + 1) (V ++ [x]) := by
  have hl := h.len
  refine ⟨by rw [List.length_append, hl]; rfl, fun i y hy => ?_⟩
  rcases Nat.lt_or_ge i V.length with hi | hi
  · rw [List.getElem?_append_left hi] at hy
    exact h.same i y hy
  · rw [List.getElem?_append_right hi] at hy
    have h2 := (List.getElem?_eq_some_iff.1 hy).1
    rw [List.length_singleton] at h2
    rw [show i - V.length = 0 by omega] at hy
    simp at hy; subst hy
    rw [show i = k + 1 by omega]; exact hx
end
end Go.Proofs.Ytkdjbddjblahkaa

/-
  Routes (layer 49): the law ResolveChain.
  No conditions beyond the arguments' types.
-/
namespace Go.Proofs.Ytkdjbddjblahkaa
open Go.RowKit

theorem eightA_v (n : Nat) (w : World) (hn : n ≤ 100) : Calls Try.prog 27 #[.int .i64 n] w (Ret (.agg #[.int .u32 ((n * 16777216 : Nat) : Int), .int .i64 8]) w) := eight_v n w hn
set_option maxHeartbeats 8000000 in
theorem lawChain_v (a b : Nat) (w : World) (ha : a < 256) (hb : b < 256) :
    Calls Try.prog 8 #[.int .u8 a, .int .u8 b] w (Ret (.bool true) w) := by
  obtain ⟨k, hk⟩ : ∃ k, k = a % 24 := ⟨_, rfl⟩
  obtain ⟨t, ht⟩ : ∃ t, t = b % 3 := ⟨_, rfl⟩
  have ek : ((a : Int) % 24) = (k : Int) := by omega
  have et : ((b : Int) % 3) = (t : Int) := by omega
  have hk23 : k ≤ 23 := by omega
  have hw : 1 ≤ (1 + (t : Int)) ∧ 1 + (t : Int) ≤ 3 := by omega
  refine V_enter (vs := [_, _]) Try.func8 rfl Try.ntmps8 (Nat.le_of_ble_eq_true rfl) ?_
  repeat (first | refine Vx ?_ | (apply Ops_q; (case hon => exact Va); (case hd => rfl); (case hq => exact YlA)) | refine Vr ?_ | refine Vt ?_ | refine Vf ?_ | refine Vm ?_ | refine Ve ?_ | refine Vo ?_ | refine Vz ?_ | refine Vn ?_)
  rw [ek]
  repeat (first | refine Vx ?_ | (apply Ops_q; (case hon => exact Va); (case hd => rfl); (case hq => exact YlA)) | refine Vr ?_ | refine Vt ?_ | refine Vf ?_ | refine Vm ?_ | refine Ve ?_ | refine Vo ?_ | refine Vz ?_ | refine Vn ?_)
  rw [et]
  repeat (first | refine Vx ?_ | (apply Ops_q; (case hon => exact Va); (case hd => rfl); (case hq => exact YlA)) | refine Vr ?_ | refine Vt ?_ | refine Vf ?_ | refine Vm ?_ | refine Ve ?_ | refine Vo ?_ | refine Vz ?_ | refine Vn ?_)
  generalize 1 + (t : Int) = wt at *
  (apply Ops_q; (case hon => (exact Va)); (case hd => rfl); (case hq => exact Yl_call rfl (fun w_ e_ => eightA_v 1 w_ (by decide))))
  repeat (first | refine Vx ?_ | (apply Ops_q; (case hon => exact Va); (case hd => rfl); (case hq => exact YlA)) | refine Vr ?_ | refine Vt ?_ | refine Vf ?_ | refine Vm ?_ | refine Ve ?_ | refine Vo ?_ | refine Vz ?_ | refine Vn ?_)
  (refine Ops_lit (by exact Va) rfl rfl rfl ?_; intro w1 bh n_bh; have k_bh := n_bh.blk)
  have x1 := n_bh.ext
  have z1 := n_bh.ge
  clear n_bh
  repeat (first | refine Vx ?_ | (apply Ops_q; (case hon => exact Va); (case hd => rfl); (case hq => exact YlA)) | refine Vr ?_ | refine Vt ?_ | refine Vf ?_ | refine Vm ?_ | refine Ve ?_ | refine Vo ?_ | refine Vz ?_ | refine Vn ?_)
  (refine Ops_lit (by exact Va) rfl rfl rfl ?_; intro w2 bl n_bl; have k_bl := n_bl.blk)
  have x2 := x1.trans n_bl.ext
  have lh := k_bh.lt
  have gl := n_bl.ge
  have r0 : RtM w2 ⟨⟨16777216, 8⟩, 1, 0, 0, 0, some ⟨bh, 0, none⟩, 1, [⟨0, 3, 0, 1, ⟨0, 0⟩⟩]⟩ := rtM_one (k_bh.ext n_bl.ext) (by decide) ⟨by decide, by decide, by decide⟩
  have o2 : Own w2 w.heap.size 31 7 (.slice (some ⟨bl, 0, none⟩) 1 1) ([(⟨⟨16777216, 8⟩, 1, 0, 0, 0, some ⟨bh, 0, none⟩, 1, [⟨0, 3, 0, 1, ⟨0, 0⟩⟩]⟩ : Rt)].map Rt.cells) := Own.lit1 k_bl (Nat.le_trans x1.size gl) rfl
  have rm2 : RM w2 (fun _ => False) (.slice (some ⟨bl, 0, none⟩) 1 1) [⟨⟨16777216, 8⟩, 1, 0, 0, 0, some ⟨bh, 0, none⟩, 1, [⟨0, 3, 0, 1, ⟨0, 0⟩⟩]⟩] := ⟨fun r hr => by
    rw [List.mem_singleton.1 hr]
    refine ⟨r0, fun a ha => ?_⟩
    cases ha
    exact ⟨fun h => h, fun e => by have h1 : bl = bh := Option.some.inj e; omega, (show bh < w2.heap.size from Nat.lt_of_lt_of_le lh n_bl.ext.size)⟩⟩
  have hc0 : IsCh wt 0 [⟨⟨16777216, 8⟩, 1, 0, 0, 0, some ⟨bh, 0, none⟩, 1, [⟨0, 3, 0, 1, ⟨0, 0⟩⟩]⟩] := IsCh.one ⟨rfl, rfl, rfl, rfl, rfl, rfl⟩
  clear n_bl k_bl k_bh r0
  repeat (first | refine Vx ?_ | (apply Ops_q; (case hon => exact Va); (case hd => rfl); (case hq => exact YlA)) | refine Vr ?_ | refine Vt ?_ | refine Vf ?_ | refine Vm ?_ | refine Ve ?_ | refine Vo ?_ | refine Vz ?_ | refine Vn ?_)
  refine V_loop (fun z : Nat × Value × List Rt => [(8, .int .i64 ((z.1 + 1 : Nat) : Int)), (7, z.2.1), (5, .int .i64 k), (6, .int .i64 wt)])
    (fun z w' => Ext w w' ∧ z.1 ≤ k ∧ Own w' w.heap.size 31 7 z.2.1 (z.2.2.map Rt.cells) ∧ RM w' (fun _ => False) z.2.1 z.2.2 ∧ IsCh wt z.1 z.2.2) (fun z => k - z.1) (0, .slice (some ⟨bl, 0, none⟩) 1 1, _) (by repeat (first | exact trivial | refine ⟨rfl, ?_⟩)) ⟨x2, Nat.zero_le _, o2, rm2, hc0⟩ ?_
  clear x2 o2 rm2 hc0 x1
  rintro ⟨j, v, M⟩ w3 ⟨x3, hj, o3, rm3, hch⟩
  dsimp only at hj o3 rm3 hch ⊢
  have hMl := hch.len
  repeat (first | refine Vx ?_ | (apply Ops_q; (case hon => exact Va); (case hd => rfl); (case hq => exact YlA)) | refine Vr ?_ | refine Vt ?_ | refine Vf ?_ | refine Vm ?_ | refine Ve ?_ | refine Vo ?_ | refine Vz ?_ | refine Vn ?_)
  refine V_cond rfl (fun hg => ?_) (fun hg => ?_)
  · have hjk : j + 1 ≤ k := by have := of_decide_eq_true hg; omega
    clear hg
    repeat (first | refine Vx ?_ | (apply Ops_q; (case hon => exact Va); (case hd => rfl); (case hq => exact YlA)) | refine Vr ?_ | refine Vt ?_ | refine Vf ?_ | refine Vm ?_ | refine Ve ?_ | refine Vo ?_ | refine Vz ?_ | refine Vn ?_)
    (apply Ops_q; (case hon => (exact Va)); (case hd => rfl); (case hq => exact Yl_call rfl (fun w_ e_ => eightA_v (j + 1 + 1) w_ (by omega))))
    repeat (first | refine Vx ?_ | (apply Ops_q; (case hon => exact Va); (case hd => rfl); (case hq => exact YlA)) | refine Vr ?_ | refine Vt ?_ | refine Vf ?_ | refine Vm ?_ | refine Ve ?_ | refine Vo ?_ | refine Vz ?_ | refine Vn ?_)
    (apply Ops_q; (case hon => (exact Va)); (case hd => rfl); (case hq => exact Yl_call rfl (fun w_ e_ => eightA_v (j + 1) w_ (by omega))))
    repeat (first | refine Vx ?_ | (apply Ops_q; (case hon => exact Va); (case hd => rfl); (case hq => exact YlA)) | refine Vr ?_ | refine Vt ?_ | refine Vf ?_ | refine Vm ?_ | refine Ve ?_ | refine Vo ?_ | refine Vz ?_ | refine Vn ?_)
    (refine Ops_lit (by exact Va) rfl rfl rfl ?_; intro w4 bn n_bn; have k_bn := n_bn.blk)
    have y4 := n_bn.ext
    have gn := n_bn.ge
    clear n_bn
    repeat (first | refine Vx ?_ | (apply Ops_q; (case hon => exact Va); (case hd => rfl); (case hq => exact YlA)) | refine Vr ?_ | refine Vt ?_ | refine Vf ?_ | refine Vm ?_ | refine Ve ?_ | refine Vo ?_ | refine Vz ?_ | refine Vn ?_)
    (refine Ops_lit (by exact Va) rfl rfl rfl ?_; intro w5 br n_br; have k_br := n_br.blk)
    have y5 := y4.trans n_br.ext
    have hrn : RtM w5 ⟨⟨(j + 1 + 1) * 16777216, 8⟩, 2, 1, 0, 0, some ⟨bn, 0, none⟩, 1, [⟨(j + 1) * 16777216 + 5, -1, 0, wt, ⟨0, 0⟩⟩]⟩ := rtM_one (k_bn.ext n_br.ext) (by dsimp only; omega) ⟨by dsimp only; omega, by dsimp only; omega, by dsimp only; omega⟩
    have hsn : SameR ⟨⟨(j + 1 + 1) * 16777216, 8⟩, 2, 1, 0, 0, some ⟨bn, 0, none⟩, 1, [⟨(j + 1) * 16777216 + 5, -1, 0, wt, ⟨0, 0⟩⟩]⟩ (chI wt (j + 1)) := by
      unfold chI
      rw [if_neg (Nat.succ_ne_zero j)]
      exact ⟨rfl, rfl, rfl, rfl, rfl, rfl⟩
    have hcs : Cells w5 ⟨br, 0, none⟩ (Rt.cells ⟨⟨(j + 1 + 1) * 16777216, 8⟩, 2, 1, 0, 0, some ⟨bn, 0, none⟩, 1, [⟨(j + 1) * 16777216 + 5, -1, 0, wt, ⟨0, 0⟩⟩]⟩) := n_br.blk.cells
    have ln := k_bn.lt
    have z5 := n_br.ext.size
    generalize hrr : (⟨⟨(j + 1 + 1) * 16777216, 8⟩, 2, 1, 0, 0, some ⟨bn, 0, none⟩, 1, [⟨(j + 1) * 16777216 + 5, -1, 0, wt, ⟨0, 0⟩⟩]⟩ : Rt) = rr at *
    have o5 := o3.ext y5
    have rm5 := (rm3.ext y5).add hrn (fun a ha => by
      rw [← hrr] at ha
      cases ha
      exact ⟨fun h => h, fun e => by have h1 : bn < w3.heap.size := o3.lt e; omega, (show bn < w5.heap.size by omega)⟩)
    have x5 := x3.trans y5
    clear k_bn n_br k_br
    repeat (first | refine Vx ?_ | (apply Ops_q; (case hon => exact Va); (case hd => rfl); (case hq => exact YlA)) | refine Vr ?_ | refine Vt ?_ | refine Vf ?_ | refine Vm ?_ | refine Ve ?_ | refine Vo ?_ | refine Vz ?_ | refine Vn ?_)
    refine Ops_append1 (u := rr.cells) (by exact Va) rfl rfl rfl rfl o5 hcs ⟨rfl⟩ ⟨rfl⟩ (by rw [List.length_map]; omega) rfl x5.size ?_
    intro v' w6 o6 g6 d6
    have x6 := grow_below x5 g6 (fun b hb => o5.ge hb)
    have rm6 := rm5.app g6 d6
    rw [show [rr.cells] = [rr].map Rt.cells from rfl, ← List.map_append] at o6
    repeat (first | refine Vx ?_ | (apply Ops_q; (case hon => exact Va); (case hd => rfl); (case hq => exact YlA)) | refine Vr ?_ | refine Vt ?_ | refine Vf ?_ | refine Vm ?_ | refine Ve ?_ | refine Vo ?_ | refine Vz ?_ | refine Vn ?_)
    exact ⟨(j + 1, v', _), (by repeat (first | exact trivial | refine ⟨rfl, ?_⟩)), ⟨x6, hjk, o6, rm6, hch.add hsn⟩, by simp only; omega⟩
  · obtain rfl : j = k := by have := of_decide_eq_false hg; omega
    clear hg
    obtain ⟨aM, cM, rfl, hA⟩ := o3.slice
    have hR : Rts w3 aM M := ⟨hA, fun r hr => (rm3.mem r hr).1⟩
    obtain ⟨x, hx⟩ : ∃ x, M[j]? = some x := ⟨_, List.getElem?_eq_getElem (by omega)⟩
    have hxm := (rm3.mem x (List.mem_of_getElem? hx)).1
    obtain ⟨ad, rfl, hcx⟩ := hR.at hx
    have hhv := hch.hops hw hk23 hx
    rw [List.length_map]
    repeat (first | refine Vx ?_ | (apply Ops_q; (case hon => exact Va); (case hd => rfl); (case hq => exact YlA)) | refine Vr ?_ | refine Vt ?_ | refine Vf ?_ | refine Vm ?_ | refine Ve ?_ | refine Vo ?_ | refine Vz ?_ | refine Vn ?_)
    (apply Ops_q; (case hon => (exact Va)); (case hd => rfl); (case hq => exact Yl_indexS (j := j) rfl rfl (by omega)))
    repeat (first | refine Vx ?_ | (apply Ops_q; (case hon => exact Va); (case hd => rfl); (case hq => exact YlA)) | refine Vr ?_ | refine Vt ?_ | refine Vf ?_ | refine Vm ?_ | refine Ve ?_ | refine Vo ?_ | refine Vz ?_ | refine Vn ?_)
    clear hcx
    (refine Ops_callR (by exact Va) rfl rfl (fun w_ e_ => hops_v (some ad) M cM x w_ (hR.ext e_) (by omega) (hxm.ext e_)) ?_; intro u w4 w0_ e0_ e1_ r_u; have e_w4 := e0_.trans e1_; have b_u := e0_.size; clear e0_ e1_)
    rw [hhv] at r_u
    have x4 := x3.trans e_w4
    by_cases t9 : 16 < j
    · rw [if_pos t9] at r_u
      obtain ⟨ao4, c4, rfl, _⟩ := r_u
      dsimp only
      have d9 : decide ((16 : Int) < (j : Int)) = true := decide_eq_true (by omega)
      repeat (first | refine Vx ?_ | (apply Ops_q; (case hon => exact Va); (case hd => rfl); (case hq => exact YlA)) | refine Vr ?_ | refine Vt ?_ | refine Vf ?_ | refine Vm ?_ | refine Ve ?_ | refine Vo ?_ | refine Vz ?_ | refine Vn ?_)
      refine V_yes rfl d9 ?_
      repeat (first | refine Vx ?_ | (apply Ops_q; (case hon => exact Va); (case hd => rfl); (case hq => exact YlA)) | refine Vr ?_ | refine Vt ?_ | refine Vf ?_ | refine Vm ?_ | refine Ve ?_ | refine Vo ?_ | refine Vz ?_ | refine Vn ?_)
      (apply Ops_q; (case hon => (exact Va)); (case hd => rfl); (case hq => exact Yl_call rfl (fun w_ e_ => awake49_v w_)))
      repeat (first | refine Vx ?_ | (apply Ops_q; (case hon => exact Va); (case hd => rfl); (case hq => exact YlA)) | refine Vr ?_ | refine Vt ?_ | refine Vf ?_ | refine Vm ?_ | refine Ve ?_ | refine Vo ?_ | refine Vz ?_ | refine Vn ?_)
      refine ret1 (by first | exact .inl rfl | exact .inr rfl) rfl rfl ?_
      exact Ret_mk rfl x4
    · rw [if_neg t9] at r_u
      obtain ⟨ao4, c4, rfl, hN, _⟩ := r_u
      dsimp only at hN ⊢
      have d9 : decide ((16 : Int) < (j : Int)) = false := decide_eq_false (by omega)
      obtain ⟨ah, rfl, hch4⟩ := hN.at (k := 0) (x := chH wt j) rfl
      have hA5 : j ≠ 0 → (chH wt j).addr = 16777221 := fun h => if_neg h
      have hp5 := prodW_in hw.1 j
      have hl1 : [chH wt j].length = 1 := rfl
      have hch5 : Cells w4 (ah.add (0 * 6)) [.int .u32 (chH wt j).addr, .int .i64 3, .int .u32 0, .int .i64 (prodW wt j), .int .u32 16777216, .int .i64 8] := hch4
      clear hch4 hN
      generalize (chH wt j).addr = A at *
      have q3 : Cells w4 ((ah.add (0 * 6)).add 4) [.int .u32 16777216, .int .i64 8] := hch5.sub 4 2
      have qi := hch5 1 _ rfl
      repeat (first | refine Vx ?_ | (apply Ops_q; (case hon => exact Va); (case hd => rfl); (case hq => exact YlA)) | refine Vr ?_ | refine Vt ?_ | refine Vf ?_ | refine Vm ?_ | refine Ve ?_ | refine Vo ?_ | refine Vz ?_ | refine Vn ?_)
      refine V_no rfl d9 ?_
      repeat (first | refine Vx ?_ | (apply Ops_q; (case hon => exact Va); (case hd => rfl); (case hq => exact YlA)) | refine Vr ?_ | refine Vt ?_ | refine Vf ?_ | refine Vm ?_ | refine Ve ?_ | refine Vo ?_ | refine Vz ?_ | refine Vn ?_)
      (apply Ops_q; (case hon => (exact Va)); (case hd => rfl); (case hq => exact Yl_indexS (j := 0) rfl rfl (by omega)))
      repeat (first | refine Vx ?_ | (apply Ops_q; (case hon => exact Va); (case hd => rfl); (case hq => exact YlA)) | refine Vr ?_ | refine Vt ?_ | refine Vf ?_ | refine Vm ?_ | refine Ve ?_ | refine Vo ?_ | refine Vz ?_ | refine Vn ?_)
      (apply Ops_q; (case hon => (exact Va)); (case hd => rfl); (case hq => exact Yl_indexS (j := 0) rfl rfl (by omega)))
      repeat (first | refine Vx ?_ | (apply Ops_q; (case hon => exact Va); (case hd => rfl); (case hq => exact YlA)) | refine Vr ?_ | refine Vt ?_ | refine Vf ?_ | refine Vm ?_ | refine Ve ?_ | refine Vo ?_ | refine Vz ?_ | refine Vn ?_)
      (apply Ops_q; (case hon => (exact Va)); (case hd => rfl); (case hq => exact Yl_call rfl (fun w_ e_ => eightA_v 1 w_ (by decide))))
      repeat (first | refine Vx ?_ | (apply Ops_q; (case hon => exact Va); (case hd => rfl); (case hq => exact YlA)) | refine Vr ?_ | refine Vt ?_ | refine Vf ?_ | refine Vm ?_ | refine Ve ?_ | refine Vo ?_ | refine Vz ?_ | refine Vn ?_)
      refine V_loop (fun i : Nat => [(12, .int .i64 i), (11, .int .i64 (prodW wt i)), (5, .int .i64 j), (6, .int .i64 wt), (9, .slice (some ah) [chH wt j].length c4)])
        (fun i w' => Ext w4 w' ∧ i ≤ j) (fun i => j - i) 0 (by repeat (first | exact trivial | refine ⟨rfl, ?_⟩)) ⟨Ext.refl _, Nat.zero_le _⟩ ?_
      rintro i w5 ⟨x5, hi⟩
      repeat (first | refine Vx ?_ | (apply Ops_q; (case hon => exact Va); (case hd => rfl); (case hq => exact YlA)) | refine Vr ?_ | refine Vt ?_ | refine Vf ?_ | refine Vm ?_ | refine Ve ?_ | refine Vo ?_ | refine Vz ?_ | refine Vn ?_)
      refine V_cond rfl (fun hg => ?_) (fun hg => ?_)
      · have hij : i < j := by have := of_decide_eq_true hg; omega
        have hpi := prodW_in hw.1 i
        have hp0 : 0 ≤ prodW wt i * wt := Int.mul_nonneg (by omega) (by omega)
        have hp1 : prodW wt i * wt ≤ 255 * 3 := Int.mul_le_mul hpi.2 hw.2 (by omega) (by decide)
        have hik : InK .i64 (prodW wt i * wt) := by
          generalize prodW wt i * wt = z at *
          simp only [InK]; omega
        repeat (first | refine Vx ?_ | (apply Ops_q; (case hon => exact Va); (case hd => rfl); (case hq => exact YlA)) | refine Vr ?_ | refine Vt ?_ | refine Vf ?_ | refine Vm ?_ | refine Ve ?_ | refine Vo ?_ | refine Vz ?_ | refine Vn ?_)
        exact ⟨i + 1, (by repeat (first | exact trivial | refine ⟨rfl, ?_⟩)), ⟨x5, hij⟩, by omega⟩
      · obtain rfl : i = j := by have := of_decide_eq_false hg; omega
        have q5 := hch5.ext x5
        have qa := q5 0 _ rfl
        have qw := q5 3 _ rfl
        rw [add_add, Nat.add_zero] at qa
        repeat (first | refine Vx ?_ | (apply Ops_q; (case hon => exact Va); (case hd => rfl); (case hq => exact YlA)) | refine Vr ?_ | refine Vt ?_ | refine Vf ?_ | refine Vm ?_ | refine Ve ?_ | refine Vo ?_ | refine Vz ?_ | refine Vn ?_)
        (apply Ops_q; (case hon => (exact Va)); (case hd => rfl); (case hq => exact Yl_call rfl (fun w_ e_ => awake49_v w_)))
        repeat (first | refine Vx ?_ | (apply Ops_q; (case hon => exact Va); (case hd => rfl); (case hq => exact YlA)) | refine Vr ?_ | refine Vt ?_ | refine Vf ?_ | refine Vm ?_ | refine Ve ?_ | refine Vo ?_ | refine Vz ?_ | refine Vn ?_)
        (apply Ops_q; (case hon => (exact Va)); (case hd => rfl); (case hq => exact Yl_indexS (j := 0) rfl rfl (by omega)))
        repeat (first | refine Vx ?_ | (apply Ops_q; (case hon => exact Va); (case hd => rfl); (case hq => exact YlA)) | refine Vr ?_ | refine Vt ?_ | refine Vf ?_ | refine Vm ?_ | refine Ve ?_ | refine Vo ?_ | refine Vz ?_ | refine Vn ?_)
        rw [decide_eq_true rfl]
        repeat (first | refine Vx ?_ | (apply Ops_q; (case hon => exact Va); (case hd => rfl); (case hq => exact YlA)) | refine Vr ?_ | refine Vt ?_ | refine Vf ?_ | refine Vm ?_ | refine Ve ?_ | refine Vo ?_ | refine Vz ?_ | refine Vn ?_)
        by_cases s1 : i = 0
        · have f1 : decide ((i : Int) = 0) = true := decide_eq_true (by omega)
          refine Ops_know rfl rfl f1 ?_
          repeat (first | refine Vx ?_ | (apply Ops_q; (case hon => exact Va); (case hd => rfl); (case hq => exact YlA)) | refine Vr ?_ | refine Vt ?_ | refine Vf ?_ | refine Vm ?_ | refine Ve ?_ | refine Vo ?_ | refine Vz ?_ | refine Vn ?_)
          refine ret1 (by first | exact .inl rfl | exact .inr rfl) rfl rfl ?_
          exact Ret_mk rfl (x4.trans x5)
        · have f1 : decide ((i : Int) = 0) = false := decide_eq_false (by omega)
          obtain rfl := hA5 s1
          refine Ops_know rfl rfl f1 ?_
          repeat (first | refine Vx ?_ | (apply Ops_q; (case hon => exact Va); (case hd => rfl); (case hq => exact YlA)) | refine Vr ?_ | refine Vt ?_ | refine Vf ?_ | refine Vm ?_ | refine Ve ?_ | refine Vo ?_ | refine Vz ?_ | refine Vn ?_)
          (apply Ops_q; (case hon => (exact Va)); (case hd => rfl); (case hq => exact Yl_indexS (j := 0) rfl rfl (by omega)))
          repeat (first | refine Vx ?_ | (apply Ops_q; (case hon => exact Va); (case hd => rfl); (case hq => exact YlA)) | refine Vr ?_ | refine Vt ?_ | refine Vf ?_ | refine Vm ?_ | refine Ve ?_ | refine Vo ?_ | refine Vz ?_ | refine Vn ?_)
          (apply Ops_q; (case hon => (exact Va)); (case hd => rfl); (case hq => exact Yl_call rfl (fun w_ e_ => eightA_v 1 w_ (by decide))))
          repeat (first | refine Vx ?_ | (apply Ops_q; (case hon => exact Va); (case hd => rfl); (case hq => exact YlA)) | refine Vr ?_ | refine Vt ?_ | refine Vf ?_ | refine Vm ?_ | refine Ve ?_ | refine Vo ?_ | refine Vz ?_ | refine Vn ?_)
          refine ret1 (by first | exact .inl rfl | exact .inr rfl) rfl rfl ?_
          exact Ret_mk rfl (x4.trans x5)
end Go.Proofs.Ytkdjbddjblahkaa

/-
  An argument that is a byte.
  No conditions.
-/
namespace Go.Proofs.Ytkdjbddjblahkaa
open Go.ChangeShapes Go.WideShapes Go.ChangeAt Go.RowKit Go.Joins Go.Deep

section
variable {H : Type} {enc : TypeId × Value → H} {w : World} {base : Nat} {spare : Nat → Bool} {held : Bool}
set_option maxRecDepth 100000 in
theorem open_u8 {v : Value} {d : DataW H} {p : List MemPlace} {b0 : Nat} (hv : Value.okWide Try.prog w .any b0 5 v) (h : DataW.Trod enc Try.prog w base spare held 5 v d p) : ∃ a : Nat, v = .int .u8 a ∧ a < 256 := by
  obtain ⟨a, rfl, _, _, hw⟩ := open_int Try.underlying5 hv h
  have hb := bounds_u8 hw
  exact ⟨a.toNat, by rw [Int.toNat_of_nonneg hb.1], by omega⟩
end
end Go.Proofs.Ytkdjbddjblahkaa

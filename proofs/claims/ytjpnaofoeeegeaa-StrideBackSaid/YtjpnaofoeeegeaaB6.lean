/-
  Part 6 of the texts that the proofs of this seat share: rules of a walk, contracts of functions, plain facts. Each piece says below what it proves.
  No conditions beyond those that each lemma states.
-/
import Derived.Test.YtjpnaofoeeegeaaB5
import Derived.Deep.Slices
import Derived.Deep.Fields
import Derived.ChangeSame
import Derived.OpenShut
import Derived.Lib.SmallJoins
import Derived.ProofKit

/-
  Stride tables (layer 8): the reference's Build.
  Conditions: the table's addresses are below 2^32, its length is one that a machine holds.
-/
namespace Go.Proofs.Ytjpnaofoeeegeaa
open Go.RowKit

/-- What the reference's Build leaves of its own, between rounds. -/
structure RS (w0 : World) (vD : Value) (D : List Int) (b2 b5 : Nat) (vN vL vR : Value) (N : List Nd) (L : List Int) (Q : List (Nat × Nat)) (w : World) : Prop where
  ext : Ext w0 w
  k2 : Blk w b2 32 [.slice none 0 0, .slice none 0 0]
  k5 : Blk w b5 32 [vN, vL]
  n25 : b2 ≠ b5
  g2 : w0.heap.size ≤ b2
  g5 : w0.heap.size ≤ b5
  oN : Own w w0.heap.size 73 4 vN (N.map Nd.cells)
  oL : Own w w0.heap.size 3 1 vL (L.map ic)
  oR : Own w w0.heap.size 82 2 vR (Q.map plC)
  oD : Own w w0.heap.size 53 1 vD (D.map uc)
section
variable {w0 w w1 w2 : World} {vD : Value} {D : List Int} {b2 b5 : Nat} {vN vL vR vN' vL' vR' : Value} {N N' : List Nd} {L L' : List Int} {Q Q' : List (Nat × Nat)}
theorem RS.mono (h : RS w0 vD D b2 b5 vN vL vR N L Q w) (he : Ext w w1) : RS w0 vD D b2 b5 vN vL vR N L Q w1 :=
  ⟨h.ext.trans he, h.k2.ext he, h.k5.ext he, h.n25, h.g2, h.g5, h.oN.ext he, h.oL.ext he, h.oR.ext he, h.oD.ext he⟩
theorem RS.upd {b : Nat} {t : TypeId} {cs cs' : List Value} (h : RS w0 vD D b2 b5 vN vL vR N L Q w) (u : Upd w w1 b t cs) (hB : Blk w b t cs') (hb : w0.heap.size ≤ b) (h2 : Nat.beq 32 t = false) (h3 : Nat.beq 53 t = false) (hN : vN.ownBlock ≠ some b) (hL : vL.ownBlock ≠ some b) (hR : vR.ownBlock ≠ some b) : RS w0 vD D b2 b5 vN vL vR N L Q w1 :=
  ⟨u.below h.ext hb, u.keep h.k2 (blk_ne h.k2 hB h2), u.keep h.k5 (blk_ne h.k5 hB h2), h.n25, h.g2, h.g5, h.oN.upd u hN, h.oL.upd u hL, h.oR.upd u hR, h.oD.upd u (own_blk_ne h.oD hB h3)⟩
theorem RS.pushR (h : RS w0 vD D b2 b5 vN vL vR N L Q w) (gr : w.grownBy w1 vR.ownBlock) (o' : Own w1 w0.heap.size 82 2 vR' (Q'.map plC)) : RS w0 vD D b2 b5 vN vL vR' N L Q' w1 :=
  ⟨grow_below h.ext gr (fun _ hk => h.oR.ge hk), grow_blk gr h.k2 (fun e => own_blk_ne h.oR h.k2 rfl e.symm), grow_blk gr h.k5 (fun e => own_blk_ne h.oR h.k5 rfl e.symm), h.n25, h.g2, h.g5, h.oN.grow gr (own_own_ne h.oN h.oR rfl), h.oL.grow gr (own_own_ne h.oL h.oR rfl), o', h.oD.grow gr (own_own_ne h.oD h.oR rfl)⟩
theorem RS.pushL (h : RS w0 vD D b2 b5 vN vL vR N L Q w) (gr : w.grownBy w1 vL.ownBlock) (o' : Own w1 w0.heap.size 3 1 vL' (L'.map ic)) (u : Upd w1 w2 b5 32 [vN, vL']) : RS w0 vD D b2 b5 vN vL' vR N L' Q w2 := by
  have k2' := grow_blk gr h.k2 (fun e => own_blk_ne h.oL h.k2 rfl e.symm)
  have k5' := grow_blk gr h.k5 (fun e => own_blk_ne h.oL h.k5 rfl e.symm)
  have oN' := h.oN.grow gr (own_own_ne h.oN h.oL rfl)
  have oR' := h.oR.grow gr (own_own_ne h.oR h.oL rfl)
  have oD' := h.oD.grow gr (own_own_ne h.oD h.oL rfl)
  exact ⟨u.below (grow_below h.ext gr (fun _ hk => h.oL.ge hk)) h.g5, u.keep k2' h.n25, u.blk, h.n25, h.g2, h.g5, oN'.upd u (own_blk_ne oN' k5' rfl), o'.upd u (own_blk_ne o' k5' rfl), oR'.upd u (own_blk_ne oR' k5' rfl), oD'.upd u (own_blk_ne oD' k5' rfl)⟩
theorem RS.pushN (h : RS w0 vD D b2 b5 vN vL vR N L Q w) (gr : w.grownBy w1 vN.ownBlock) (o' : Own w1 w0.heap.size 73 4 vN' (N'.map Nd.cells)) (u : Upd w1 w2 b5 32 [vN', vL]) : RS w0 vD D b2 b5 vN' vL vR N' L Q w2 := by
  have k2' := grow_blk gr h.k2 (fun e => own_blk_ne h.oN h.k2 rfl e.symm)
  have k5' := grow_blk gr h.k5 (fun e => own_blk_ne h.oN h.k5 rfl e.symm)
  have oL' := h.oL.grow gr (own_own_ne h.oL h.oN rfl)
  have oR' := h.oR.grow gr (own_own_ne h.oR h.oN rfl)
  have oD' := h.oD.grow gr (own_own_ne h.oD h.oN rfl)
  exact ⟨u.below (grow_below h.ext gr (fun _ hk => h.oN.ge hk)) h.g5, u.keep k2' h.n25, u.blk, h.n25, h.g2, h.g5, o'.upd u (own_blk_ne o' k5' rfl), oL'.upd u (own_blk_ne oL' k5' rfl), oR'.upd u (own_blk_ne oR' k5' rfl), oD'.upd u (own_blk_ne oD' k5' rfl)⟩
end
/-- A round's state. -/
structure RR (g : Nat → Int) (w0 : World) (vD : Value) (D : List Int) (b2 b5 b9 b10 : Nat) (vN : Value) (i : Nat) (p : Nat × Nat) (k : Nat) (vL vR : Value) (w : World) : Prop where
  rs : RS w0 vD D b2 b5 vN vL vR (ndsF g i) (lvF g i ++ lvP g p k) (rowF g i ++ kdP g p k) w
  k9 : Blk w b9 82 [.int .u64 p.1, .int .i64 p.2]
  k10 : Blk w b10 73 [.int .u64 (mkW (inB g p) k), .int .u64 (mkW (stB g p) k), .int .i64 (rowF g i).length, .int .i64 (lvF g i).length]
  g10 : w0.heap.size ≤ b10
  nN : vN.ownBlock ≠ some b10
  nR : vR.ownBlock ≠ some b9
section
variable {g : Nat → Int} {w0 w wa wb wc wd : World} {vD : Value} {D : List Int} {b2 b5 b9 b10 : Nat} {vN vL vR vL' vR' : Value} {i : Nat} {p : Nat × Nat} {k : Nat}
theorem RR.mono (h : RR g w0 vD D b2 b5 b9 b10 vN i p k vL vR w) (he : Ext w wa) : RR g w0 vD D b2 b5 b9 b10 vN i p k vL vR wa := ⟨h.rs.mono he, h.k9.ext he, h.k10.ext he, h.g10, h.nN, h.nR⟩
theorem RR.same (h : RR g w0 vD D b2 b5 b9 b10 vN i p k vL vR w) (e1 : kdP g p (k + 1) = kdP g p k) (e2 : lvP g p (k + 1) = lvP g p k) (e3 : mkW (inB g p) (k + 1) = mkW (inB g p) k) (e4 : mkW (stB g p) (k + 1) = mkW (stB g p) k) : RR g w0 vD D b2 b5 b9 b10 vN i p (k + 1) vL vR w :=
  ⟨by rw [e1, e2]; exact h.rs, h.k9, by rw [e3, e4]; exact h.k10, h.g10, h.nN, h.nR⟩
theorem RR.inner (h : RR g w0 vD D b2 b5 b9 b10 vN i p k vL vR w) (hin : inB g p k = true) (hK : digK g p k = some none)
    (ua : Upd w wa b10 73 [.int .u64 (mkW (inB g p) (k + 1)), .int .u64 (mkW (stB g p) k), .int .i64 (rowF g i).length, .int .i64 (lvF g i).length]) (eb : Ext wa wb) (gc : wb.grownBy wc vR.ownBlock)
    (oc : Own wc w0.heap.size 82 2 vR' ((rowF g i ++ kdP g p k).map plC ++ [plC (digLo p.2 p.1 k, p.2 + 1)])) (dc : vR'.ownBlock = vR.ownBlock ∨ ∃ b, vR'.ownBlock = some b ∧ wb.heap.size ≤ b) : RR g w0 vD D b2 b5 b9 b10 vN i p (k + 1) vL vR' wc := by
  obtain ⟨s1, s2, s3⟩ := step_in hin hK
  have csa := (h.rs.upd ua h.k10 h.g10 rfl rfl h.nN (own_blk_ne h.rs.oL h.k10 rfl) (own_blk_ne h.rs.oR h.k10 rfl)).mono eb
  have k9 := (ua.keep h.k9 (blk_ne h.k9 h.k10 rfl)).ext eb
  have k10 := ua.blk.ext eb
  have csc := csa.pushR (Q' := rowF g i ++ kdP g p (k + 1)) gc (by rw [s1, ← List.append_assoc, List.map_append]; exact oc)
  exact ⟨by rw [s2]; exact csc, grow_blk gc k9 (fun e => h.nR e.symm), by rw [s3]; exact grow_blk gc k10 (fun e => own_blk_ne csa.oR k10 rfl e.symm), h.g10, h.nN, dis_app dc h.nR k9.lt⟩
theorem RR.newLeaf {v : Int} (h : RR g w0 vD D b2 b5 b9 b10 vN i p k vL vR w) (e1 : kdP g p (k + 1) = kdP g p k) (e2 : lvP g p (k + 1) = lvP g p k ++ [v]) (e3 : mkW (inB g p) (k + 1) = mkW (inB g p) k)
    (ua : Upd w wa b10 73 [.int .u64 (mkW (inB g p) k), .int .u64 (mkW (stB g p) (k + 1)), .int .i64 (rowF g i).length, .int .i64 (lvF g i).length]) (eb : Ext wa wb) (gc : wb.grownBy wc vL.ownBlock)
    (oc : Own wc w0.heap.size 3 1 vL' ((lvF g i ++ lvP g p k).map ic ++ [ic v])) (ud : Upd wc wd b5 32 [vN, vL']) : RR g w0 vD D b2 b5 b9 b10 vN i p (k + 1) vL' vR wd := by
  have csa := (h.rs.upd ua h.k10 h.g10 rfl rfl h.nN (own_blk_ne h.rs.oL h.k10 rfl) (own_blk_ne h.rs.oR h.k10 rfl)).mono eb
  have kp : ∀ {b : Nat} {t : TypeId} {cs : List Value}, Blk wb b t cs → vL.ownBlock ≠ some b → b ≠ b5 → Blk wd b t cs := fun hB hn h4 => ud.keep (grow_blk gc hB (fun e => hn e.symm)) h4
  have k9 := (ua.keep h.k9 (blk_ne h.k9 h.k10 rfl)).ext eb
  have k10 := ua.blk.ext eb
  have csd := csa.pushL (L' := lvF g i ++ lvP g p (k + 1)) gc (by rw [e2, ← List.append_assoc, List.map_append]; exact oc) ud
  exact ⟨by rw [e1]; exact csd, kp k9 (own_blk_ne csa.oL k9 rfl) (blk_ne k9 csa.k5 rfl), by rw [e3]; exact kp k10 (own_blk_ne csa.oL k10 rfl) (blk_ne k10 csa.k5 rfl), h.g10, h.nN, h.nR⟩
end
set_option maxHeartbeats 4000000 in
theorem buildR_v (ao : Option Addr) (T : List En) (c : Nat) (w : World) (hT : Ens w ao T) (ha : ∀ e ∈ T, e.p.a < 4294967296) (hn : T.length ≤ 1000000) :
    Calls Try.prog 19 #[.slice ao T.length c] w (Gives (BldR T) w) := by
  refine V_enter (vs := [_]) Try.func19 rfl Try.ntmps19 (Nat.le_of_ble_eq_true rfl) ?_
  repeat (first | refine Vx ?_ | (apply Ops_q; (case hon => exact Va); (case hd => rfl); (case hq => exact YlA)) | refine Vr ?_ | refine Vt ?_ | refine Vf ?_ | refine Vm ?_ | refine Ve ?_ | refine Vo ?_ | refine Vz ?_ | refine Vn ?_)
  (refine Ops_alloc (by exact Va) rfl ?_; intro w1 b2 n_b2; have k_b2 := n_b2.blk)
  have x1 := n_b2.ext
  have g2 := n_b2.ge
  clear n_b2
  repeat (first | refine Vx ?_ | (apply Ops_q; (case hon => exact Va); (case hd => rfl); (case hq => exact YlA)) | refine Vr ?_ | refine Vt ?_ | refine Vf ?_ | refine Vm ?_ | refine Ve ?_ | refine Vo ?_ | refine Vz ?_ | refine Vn ?_)
  (apply Ops_q; (case hon => (exact Va)); (case hd => rfl); (case hq => exact Yl_call rfl (fun w_ e_ => checkR_v ao T c w_ (hT.ext (x1.trans e_)) ha hn)))
  repeat (first | refine Vx ?_ | (apply Ops_q; (case hon => exact Va); (case hd => rfl); (case hq => exact YlA)) | refine Vr ?_ | refine Vt ?_ | refine Vf ?_ | refine Vm ?_ | refine Ve ?_ | refine Vo ?_ | refine Vz ?_ | refine Vn ?_)
  by_cases h0 : chk T = 0
  · have d0 : (!decide (chk T = 0)) = false := by rw [decide_eq_true h0]; rfl
    refine V_no rfl d0 ?_
    have hTb := (chk_iff.1 h0).2
    have hv : ∀ e ∈ T, e.p.valid = true := fun e he => (hTb.ok e he).1
    have hlk : ∀ a, lkT T a = lk T a := fun a => by rw [lkT, if_pos h0]
    repeat (first | refine Vx ?_ | (apply Ops_q; (case hon => exact Va); (case hd => rfl); (case hq => exact YlA)) | refine Vr ?_ | refine Vt ?_ | refine Vf ?_ | refine Vm ?_ | refine Ve ?_ | refine Vo ?_ | refine Vz ?_ | refine Vn ?_)
    (refine Ops_alloc (by exact Va) rfl ?_; intro w2 b5 n_b5; have k_b5 := n_b5.blk)
    have x2 := x1.trans n_b5.ext
    have h25 : b2 ≠ b5 := Nat.ne_of_lt (Nat.lt_of_lt_of_le k_b2.lt n_b5.ge)
    have g5 : w.heap.size ≤ b5 := Nat.le_trans x1.size n_b5.ge
    replace k_b2 := k_b2.ext n_b5.ext
    clear n_b5 x1
    repeat (first | refine Vx ?_ | (apply Ops_q; (case hon => exact Va); (case hd => rfl); (case hq => exact YlA)) | refine Vr ?_ | refine Vt ?_ | refine Vf ?_ | refine Vm ?_ | refine Ve ?_ | refine Vo ?_ | refine Vz ?_ | refine Vn ?_)
    have kz5 := k_b5
    (refine Ops_store (by exact Va) rfl rfl (by assumption) (by first | rfl | exact OneAll.h) ?_; intro w3 u_w3; have k_b5 := u_w3.blk)
    have x3 := u_w3.below x2 g5
    replace k_b2 := u_w3.keep k_b2 h25
    clear u_w3 kz5 x2
    repeat (first | refine Vx ?_ | (apply Ops_q; (case hon => exact Va); (case hd => rfl); (case hq => exact YlA)) | refine Vr ?_ | refine Vt ?_ | refine Vf ?_ | refine Vm ?_ | refine Ve ?_ | refine Vo ?_ | refine Vz ?_ | refine Vn ?_)
    (refine Ops_callR (by exact Va) rfl rfl (fun w_ e_ => boundsR_v ao T c w_ (hT.ext (x3.trans e_)) ha hv (by omega)) ?_; intro vd w4 w0_ e0_ e1_ r_vd; have e_w4 := e0_.trans e1_; have b_vd := e0_.size; clear e0_ e1_)
    obtain ⟨D, oD, _, _, hDl, hDm⟩ := r_vd
    obtain ⟨aD, cD, rfl, hAD⟩ := ownS oD
    have x4 := x3.trans e_w4
    have hB : BndL T D := ⟨hDm, fun x hx => by
      obtain ⟨h1, h2⟩ := (hDm x).1 hx
      rcases h1 with rfl | h1
      · omega
      · have := words_range ha h1; omega⟩
    have hDn : D.length ≤ 4294967296 := by omega
    replace k_b2 := k_b2.ext e_w4
    replace k_b5 := k_b5.ext e_w4
    clear hDm hAD
    repeat (first | refine Vx ?_ | (apply Ops_q; (case hon => exact Va); (case hd => rfl); (case hq => exact YlA)) | refine Vr ?_ | refine Vt ?_ | refine Vf ?_ | refine Vm ?_ | refine Ve ?_ | refine Vo ?_ | refine Vz ?_ | refine Vn ?_)
    (refine Ops_lit (by exact Va) rfl rfl rfl ?_; intro w5 bq n_bq; have k_bq := n_bq.blk)
    have oR : Own w5 w.heap.size 82 2 (.slice (some ⟨bq, 0, none⟩) 1 1) ([(0, 0)].map plC) := (own_litN n_bq rfl).mono x4.size
    have hrs : RS w (.slice aD D.length cD) D b2 b5 (.slice none 0 0) (.slice none 0 0) (.slice (some ⟨bq, 0, none⟩) 1 1) [] [] [(0, 0)] w5 := ⟨x4.trans n_bq.ext, k_b2.ext n_bq.ext, k_b5.ext n_bq.ext, h25, g2, g5, Own.nil, Own.nil, oR, (oD.mono (Nat.le_trans x3.size b_vd)).ext n_bq.ext⟩
    clear k_b2 k_b5 oR n_bq k_bq x4 oD
    repeat (first | refine Vx ?_ | (apply Ops_q; (case hon => exact Va); (case hd => rfl); (case hq => exact YlA)) | refine Vr ?_ | refine Vt ?_ | refine Vf ?_ | refine Vm ?_ | refine Ve ?_ | refine Vo ?_ | refine Vz ?_ | refine Vn ?_)
    refine V_loop (fun s : Nat × Value × Value × Value => [(8, .int .i64 s.1), (7, s.2.2.2), (0, .slice ao T.length c), (2, .pointer (some ⟨b2, 0, none⟩)), (5, .pointer (some ⟨b5, 0, none⟩)), (6, .slice aD D.length cD)])
      (fun s w' => RS w (.slice aD D.length cD) D b2 b5 s.2.1 s.2.2.1 s.2.2.2 (ndsF (lk T) s.1) (lvF (lk T) s.1) (rowF (lk T) s.1) w' ∧ s.1 ≤ (rowF (lk T) s.1).length) (fun s => plW 0 - s.1)
      (0, .slice none 0 0, .slice none 0 0, .slice (some ⟨bq, 0, none⟩) 1 1) (by repeat (first | exact trivial | refine ⟨rfl, ?_⟩)) ⟨hrs, Nat.zero_le _⟩ ?_
    clear hrs
    rintro ⟨i, vN, vL, vR⟩ w6 ⟨hcs, hi⟩
    dsimp only at hcs hi ⊢
    generalize hgg : lk T = g at *
    obtain ⟨p0, hp0⟩ : ∃ p0, (rowF g i)[0]? = some p0 := ⟨(0, 0), get_prefix (row_pre g (Nat.zero_le i)) rfl⟩
    have hrne : (rowF g i).map plC ≠ [] := fun e => by rw [List.map_eq_nil_iff] at e; rw [e] at hp0; simp at hp0
    obtain ⟨gR, capR, hvR, _⟩ := hcs.oR.addr hrne
    rw [List.length_map] at hvR
    obtain ⟨aL, cL, hvL, _⟩ := ownS hcs.oL
    have hrl := row_len_le hi
    rw [plW_zero] at hrl
    have hlv := lv_le g i
    subst hvR
    subst hvL
    have k5 := hcs.k5
    repeat (first | refine Vx ?_ | (apply Ops_q; (case hon => exact Va); (case hd => rfl); (case hq => exact YlA)) | refine Vr ?_ | refine Vt ?_ | refine Vf ?_ | refine Vm ?_ | refine Ve ?_ | refine Vo ?_ | refine Vz ?_ | refine Vn ?_)
    refine V_cond rfl (fun hg => ?_) (fun hg => ?_)
    · have hil : i < (rowF g i).length := by have := of_decide_eq_true hg; omega
      clear hg
      obtain ⟨p, hp⟩ : ∃ p, (rowF g i)[i]? = some p := ⟨_, List.getElem?_eq_getElem hil⟩
      have hpk := plOk_row g i p (List.mem_of_getElem? hp)
      have hpc : Cells w6 ((⟨gR, 0, none⟩ : Addr).add (i * 2)) [.int .u64 p.1, .int .i64 p.2] := by
        obtain ⟨ao', c', e1, hA⟩ := hcs.oR.slice
        injection e1 with e1 _ _
        subst e1
        obtain ⟨ad, e2, hc⟩ := hA i (plC p) (by rw [List.getElem?_map, hp]; rfl)
        cases e2
        exact hc
      repeat (first | refine Vx ?_ | (apply Ops_q; (case hon => exact Va); (case hd => rfl); (case hq => exact YlA)) | refine Vr ?_ | refine Vt ?_ | refine Vf ?_ | refine Vm ?_ | refine Ve ?_ | refine Vo ?_ | refine Vz ?_ | refine Vn ?_)
      (apply Ops_q; (case hon => (exact Va)); (case hd => rfl); (case hq => exact Yl_indexS (j := i) rfl rfl (by omega)))
      repeat (first | refine Vx ?_ | (apply Ops_q; (case hon => exact Va); (case hd => rfl); (case hq => exact YlA)) | refine Vr ?_ | refine Vt ?_ | refine Vf ?_ | refine Vm ?_ | refine Ve ?_ | refine Vo ?_ | refine Vz ?_ | refine Vn ?_)
      (refine Ops_alloc (by exact Va) rfl ?_; intro w7 b9 n_b9; have k_b9 := n_b9.blk)
      have kz9 := k_b9
      have r7 := hcs.mono n_b9.ext
      have h9R : (Value.slice (some ⟨gR, 0, none⟩) (rowF g i).length capR).ownBlock ≠ some b9 := fun e => by have := hcs.oR.lt e; have := n_b9.ge; omega
      have g9 : w.heap.size ≤ b9 := Nat.le_trans hcs.ext.size n_b9.ge
      repeat (first | refine Vx ?_ | (apply Ops_q; (case hon => exact Va); (case hd => rfl); (case hq => exact YlA)) | refine Vr ?_ | refine Vt ?_ | refine Vf ?_ | refine Vm ?_ | refine Ve ?_ | refine Vo ?_ | refine Vz ?_ | refine Vn ?_)
      (refine Ops_store (by exact Va) rfl rfl (by assumption) (by first | rfl | exact OneAll.h) ?_; intro w8 u_w8; have k_b9 := u_w8.blk)
      have r8 := r7.upd u_w8 kz9 g9 rfl rfl (own_blk_ne r7.oN kz9 rfl) (own_blk_ne r7.oL kz9 rfl) h9R
      clear u_w8 kz9 r7 n_b9 hcs k5
      have k5 := r8.k5
      repeat (first | refine Vx ?_ | (apply Ops_q; (case hon => exact Va); (case hd => rfl); (case hq => exact YlA)) | refine Vr ?_ | refine Vt ?_ | refine Vf ?_ | refine Vm ?_ | refine Ve ?_ | refine Vo ?_ | refine Vz ?_ | refine Vn ?_)
      (refine Ops_alloc (by exact Va) rfl ?_; intro w9 b10 n_b10; have k_b10 := n_b10.blk)
      have kz10 := k_b10
      have r9 := r8.mono n_b10.ext
      have hN10 : vN.ownBlock ≠ some b10 := fun e => by have := r8.oN.lt e; have := n_b10.ge; omega
      have g10 : w.heap.size ≤ b10 := Nat.le_trans r8.ext.size n_b10.ge
      replace k_b9 := k_b9.ext n_b10.ext
      repeat (first | refine Vx ?_ | (apply Ops_q; (case hon => exact Va); (case hd => rfl); (case hq => exact YlA)) | refine Vr ?_ | refine Vt ?_ | refine Vf ?_ | refine Vm ?_ | refine Ve ?_ | refine Vo ?_ | refine Vz ?_ | refine Vn ?_)
      (refine Ops_store (by exact Va) rfl rfl (by assumption) (by first | rfl | exact OneAll.h) ?_; intro w10 u_w10; have k_b10 := u_w10.blk)
      have r10 := r9.upd u_w10 kz10 g10 rfl rfl hN10 (own_blk_ne r9.oL kz10 rfl) (own_blk_ne r9.oR kz10 rfl)
      replace k_b9 := u_w10.keep k_b9 (blk_ne k_b9 kz10 rfl)
      have hR0 : RR g w (.slice aD D.length cD) D b2 b5 b9 b10 vN i p 0 (.slice aL (lvF g i).length cL) (.slice (some ⟨gR, 0, none⟩) (rowF g i).length capR) w10 :=
        ⟨by rw [lvP, kdP, List.append_nil, List.append_nil]; exact r10, k_b9, k_b10, g10, hN10, h9R⟩
      clear u_w10 kz10 r9 r8 r10 n_b10 k_b9 k_b10 k5
      repeat (first | refine Vx ?_ | (apply Ops_q; (case hon => exact Va); (case hd => rfl); (case hq => exact YlA)) | refine Vr ?_ | refine Vt ?_ | refine Vf ?_ | refine Vm ?_ | refine Ve ?_ | refine Vo ?_ | refine Vz ?_ | refine Vn ?_)
      refine V_loop (fun s : Nat × Value × Value => [(11, .int .i64 s.1), (7, s.2.2), (9, .pointer (some ⟨b9, 0, none⟩)), (10, .pointer (some ⟨b10, 0, none⟩)), (8, .int .i64 i), (0, .slice ao T.length c), (2, .pointer (some ⟨b2, 0, none⟩)), (5, .pointer (some ⟨b5, 0, none⟩)), (6, .slice aD D.length cD)])
        (fun s w' => s.1 ≤ 64 ∧ RR g w (.slice aD D.length cD) D b2 b5 b9 b10 vN i p s.1 s.2.1 s.2.2 w') (fun s => 64 - s.1) (0, .slice aL (lvF g i).length cL, .slice (some ⟨gR, 0, none⟩) (rowF g i).length capR) (by repeat (first | exact trivial | refine ⟨rfl, ?_⟩)) ⟨Nat.zero_le _, hR0⟩ ?_
      clear hR0
      rintro ⟨k, vL, vR⟩ w11 ⟨hk64, h⟩
      dsimp only at hk64 h ⊢
      repeat (first | refine Vx ?_ | (apply Ops_q; (case hon => exact Va); (case hd => rfl); (case hq => exact YlA)) | refine Vr ?_ | refine Vt ?_ | refine Vf ?_ | refine Vm ?_ | refine Ve ?_ | refine Vo ?_ | refine Vz ?_ | refine Vn ?_)
      refine V_cond rfl (fun hg => ?_) (fun hg => ?_)
      · have hk : k < 64 := by have := of_decide_eq_true hg; omega
        clear hg
        have hdig := dig_in (base := p.1) hpk.1 hk
        have hb32 := hpk.2
        have hnp := nsz_pos (p.2 + 1)
        have hlo : digLo p.2 p.1 k < 4294967296 := by omega
        have hhi : digHi p.2 p.1 k ≤ 4294967296 := by unfold digHi; split <;> omega
        have k9 := h.k9
        have k10 := h.k10
        have hpw := pow_in hk
        have hTx := hT.ext h.rs.ext
        obtain ⟨aD', cD', eD, hAD⟩ := ownS h.rs.oD
        injection eD with eD _ _
        subst eD
        have huni := fun (w_ : World) (e_ : Ext w11 w_) => uniformR_v ao T c aD D cD (digLo p.2 p.1 k) (digHi p.2 p.1 k) w_ (hTx.ext e_) ha hn h0 (hAD.ext e_) hB hDn hlo hhi
        have hlook := fun (w_ : World) (e_ : Ext w11 w_) => lookupR_v ao T c (digLo p.2 p.1 k) w_ (hTx.ext e_) ha hn hlo
        rw [hgg] at huni
        rw [hlk] at hlook
        repeat (first | refine Vx ?_ | (apply Ops_q; (case hon => exact Va); (case hd => rfl); (case hq => exact YlA)) | refine Vr ?_ | refine Vt ?_ | refine Vf ?_ | refine Vm ?_ | refine Ve ?_ | refine Vo ?_ | refine Vz ?_ | refine Vn ?_)
        (apply Ops_q; (case hon => (exact Va)); (case hd => rfl); (case hq => exact Yl_call rfl (fun w_ e_ => blockR_v p.1 p.2 k w_ hpk.1 hk hb32)))
        repeat (first | refine Vx ?_ | (apply Ops_q; (case hon => exact Va); (case hd => rfl); (case hq => exact YlA)) | refine Vr ?_ | refine Vt ?_ | refine Vf ?_ | refine Vm ?_ | refine Ve ?_ | refine Vo ?_ | refine Vz ?_ | refine Vn ?_)
        cases hok : digOk p.2 k with
        | false =>
          have d1 : decide (((digLo p.2 p.1 k : Nat) : Int) = ((digHi p.2 p.1 k : Nat) : Int)) = true := decide_eq_true (by unfold digHi; rw [hok]; rfl)
          obtain ⟨hnK, hin⟩ := dnone_of (f := g) hok
          obtain ⟨t1, t2⟩ := step_out hin
          obtain ⟨u1, u2⟩ := step_none hnK
          refine V_yes rfl d1 ?_
          repeat (first | refine Vx ?_ | (apply Ops_q; (case hon => exact Va); (case hd => rfl); (case hq => exact YlA)) | refine Vr ?_ | refine Vt ?_ | refine Vf ?_ | refine Vm ?_ | refine Ve ?_ | refine Vo ?_ | refine Vz ?_ | refine Vn ?_)
          exact ⟨(k + 1, vL, vR), (by repeat (first | exact trivial | refine ⟨rfl, ?_⟩)), ⟨hk, h.same t1 u1 t2 u2⟩, by simp only; omega⟩
        | true =>
          have eH : digHi p.2 p.1 k = digLo p.2 p.1 k + nsz (p.2 + 1) := by unfold digHi; rw [hok]; rfl
          have d1 : decide (((digLo p.2 p.1 k : Nat) : Int) = ((digHi p.2 p.1 k : Nat) : Int)) = false := decide_eq_false (by rw [eH]; omega)
          refine V_no rfl d1 ?_
          repeat (first | refine Vx ?_ | (apply Ops_q; (case hon => exact Va); (case hd => rfl); (case hq => exact YlA)) | refine Vr ?_ | refine Vt ?_ | refine Vf ?_ | refine Vm ?_ | refine Ve ?_ | refine Vo ?_ | refine Vz ?_ | refine Vn ?_)
          (apply Ops_q; (case hon => (exact Va)); (case hd => rfl); (case hq => exact Yl_call rfl (fun w_ e_ => huni w_ e_)))
          rw [eH]
          repeat (first | refine Vx ?_ | (apply Ops_q; (case hon => exact Va); (case hd => rfl); (case hq => exact YlA)) | refine Vr ?_ | refine Vt ?_ | refine Vf ?_ | refine Vm ?_ | refine Ve ?_ | refine Vo ?_ | refine Vz ?_ | refine Vn ?_)
          cases hin : inB g p k with
          | true =>
            obtain ⟨_, h5, hnf, hK⟩ := inB_of hpk.1 hin
            have d2 : (!flat g (digLo p.2 p.1 k) (digLo p.2 p.1 k + nsz (p.2 + 1))) = true := by
              rw [Bool.eq_false_iff.2 (fun hf => hnf (flat_iff.1 hf))]; rfl
            have hor := or_step hk hin
            have hkl := kdP_le g p k
            have hlen : ((rowF g i ++ kdP g p k).map plC).length ≤ 75418890689 := by rw [List.length_map, List.length_append]; omega
            have hd6 : p.2 ≤ 5 := hpk.1
            refine V_yes rfl d2 ?_
            repeat (first | refine Vx ?_ | (apply Ops_q; (case hon => exact Va); (case hd => rfl); (case hq => exact YlA)) | refine Vt ?_ | refine Vf ?_ | refine Vm ?_ | refine Ve ?_ | refine Vo ?_ | refine Vz ?_ | refine Vn ?_)
            refine V_region_mixed 6 (by kernel_rfl) (by kernel_rfl) rfl ?_
            repeat (first | refine Vx ?_ | (apply Ops_q; (case hon => exact Va); (case hd => rfl); (case hq => exact YlA)) | refine Vr ?_ | refine Vt ?_ | refine Vf ?_ | refine Vm ?_ | refine Ve ?_ | refine Vo ?_ | refine Vz ?_ | refine Vn ?_)
            rw [hor]
            (refine Ops_store (by exact Va) rfl rfl (by assumption) (by first | rfl | exact OneAll.h) ?_; intro wa u_wa; have k_b10 := u_wa.blk)
            have csa := h.rs.upd u_wa h.k10 h.g10 rfl rfl h.nN (own_blk_ne h.rs.oL h.k10 rfl) (own_blk_ne h.rs.oR h.k10 rfl)
            have k9a := u_wa.keep h.k9 (blk_ne h.k9 h.k10 rfl)
            repeat (first | refine Vx ?_ | (apply Ops_q; (case hon => exact Va); (case hd => rfl); (case hq => exact YlA)) | refine Vr ?_ | refine Vt ?_ | refine Vf ?_ | refine Vm ?_ | refine Ve ?_ | refine Vo ?_ | refine Vz ?_ | refine Vn ?_)
            (refine Ops_lit (by exact Va) rfl rfl rfl ?_; intro wb bl n_bl; have k_bl := n_bl.blk)
            have csb := csa.mono n_bl.ext
            repeat (first | refine Vx ?_ | (apply Ops_q; (case hon => exact Va); (case hd => rfl); (case hq => exact YlA)) | refine Vr ?_ | refine Vt ?_ | refine Vf ?_ | refine Vm ?_ | refine Ve ?_ | refine Vo ?_ | refine Vz ?_ | refine Vn ?_)
            (refine Ops_append1 (by exact Va) rfl rfl rfl rfl csb.oR k_bl.cells inferInstance inferInstance (by first | omega | (rw [List.length_map]; omega)) rfl csb.ext.size ?_; intro vR2 wc o_vR2 g_wc d_vR2)
            have ep : ((p.2 : Int) + 1) = ((p.2 + 1 : Nat) : Int) := by omega
            rw [ep] at o_vR2
            have hfin := h.inner hin hK u_wa n_bl.ext g_wc o_vR2 d_vR2
            repeat (first | refine Vx ?_ | (apply Ops_q; (case hon => exact Va); (case hd => rfl); (case hq => exact YlA)) | refine Vr ?_ | refine Vt ?_ | refine Vf ?_ | refine Vm ?_ | refine Ve ?_ | refine Vo ?_ | refine Vz ?_ | refine Vn ?_)
            exact ⟨(k + 1, vL, vR2), (by repeat (first | exact trivial | refine ⟨rfl, ?_⟩)), ⟨hk, hfin⟩, by simp only; omega⟩
          | false =>
            obtain ⟨hK, hF⟩ := leaf_of hin hok
            obtain ⟨t1, t2⟩ := step_out hin
            have d2 : (!flat g (digLo p.2 p.1 k) (digLo p.2 p.1 k + nsz (p.2 + 1))) = false := by rw [flat_iff.2 hF]; rfl
            obtain ⟨aL3, cL3, rfl, hAL⟩ := ownS h.rs.oL
            have hAL' : Ins w11 aL3 (lvF g i ++ lvP g p k) := hAL
            have k5 := h.rs.k5
            have hkl := lvP_le g p k
            have hlen0 : (lvF g i ++ lvP g p k).length = (lvF g i).length + (lvP g p k).length := List.length_append
            have hlen : ((lvF g i ++ lvP g p k).map ic).length ≤ 4826809000064 := by rw [List.length_map]; omega
            refine V_no rfl d2 ?_
            repeat (first | refine Vx ?_ | (apply Ops_q; (case hon => exact Va); (case hd => rfl); (case hq => exact YlA)) | refine Vr ?_ | refine Vt ?_ | refine Vf ?_ | refine Vm ?_ | refine Ve ?_ | refine Vo ?_ | refine Vz ?_ | refine Vn ?_)
            (apply Ops_q; (case hon => (exact Va)); (case hd => rfl); (case hq => exact Yl_call rfl (fun w_ e_ => hlook w_ e_)))
            generalize hval : g (digLo p.2 p.1 k) = value at *
            repeat (first | refine Vx ?_ | (apply Ops_q; (case hon => exact Va); (case hd => rfl); (case hq => exact YlA)) | refine Vr ?_ | refine Vt ?_ | refine Vf ?_ | refine Vm ?_ | refine Ve ?_ | refine Vo ?_ | refine Vz ?_ | refine Vn ?_)
            refine Ops_meet [(99, .bool (stB g p k)), (14, .int .i64 value), (7, vR), (11, .int .i64 k), (9, .pointer (some ⟨b9, 0, none⟩)), (10, .pointer (some ⟨b10, 0, none⟩)), (8, .int .i64 i), (0, .slice ao T.length c), (2, .pointer (some ⟨b2, 0, none⟩)), (5, .pointer (some ⟨b5, 0, none⟩)), (6, .slice aD D.length cD)] ?_ ?_
            · cases hlp : (lvP g p k).getLast? with
              | none =>
                have hnil := List.getLast?_eq_none_iff.1 hlp
                have hst : stB g p k = true := (step_new hK (by rw [hlp]; exact fun e => nomatch e)).2
                have dl : decide ((((lvF g i ++ lvP g p k).length : Nat) : Int) - 1 < (((lvF g i).length : Nat) : Int)) = true := decide_eq_true (by rw [hnil, List.append_nil]; omega)
                refine Ops_know rfl rfl dl ?_
                repeat (first | refine Vx ?_ | (apply Ops_q; (case hon => exact Va); (case hd => rfl); (case hq => exact YlA)) | refine Vr ?_ | refine Vt ?_ | refine Vf ?_ | refine Vm ?_ | refine Ve ?_ | refine Vo ?_ | refine Vz ?_ | refine Vn ?_)
                rw [hst]
                exact ⟨(by repeat (first | exact trivial | refine ⟨rfl, ?_⟩)), rfl⟩
              | some last =>
                have hpos : 0 < (lvP g p k).length := List.length_pos_iff.2 (fun e => by rw [e] at hlp; cases hlp)
                have dl : decide ((((lvF g i ++ lvP g p k).length : Nat) : Int) - 1 < (((lvF g i).length : Nat) : Int)) = false := decide_eq_false (by omega)
                have hlast : (lvF g i ++ lvP g p k)[(lvF g i ++ lvP g p k).length - 1]? = some last := by
                  rw [List.getElem?_append_right (by omega), hlen0, show (lvF g i).length + (lvP g p k).length - 1 - (lvF g i).length = (lvP g p k).length - 1 by omega, ← List.getLast?_eq_getElem?]; exact hlp
                obtain ⟨ad, rfl, hcl⟩ := hAL'.at hlast
                have ei : (((lvF g i ++ lvP g p k).length : Nat) : Int) - 1 = (((lvF g i ++ lvP g p k).length - 1 : Nat) : Int) := by omega
                have hjl : (lvF g i ++ lvP g p k).length - 1 < (lvF g i ++ lvP g p k).length := by omega
                have hst : stB g p k = !decide (last = value) := by
                  by_cases he : last = value
                  · rw [(step_same hK (by rw [hlp, he])).2, decide_eq_true he]; rfl
                  · rw [(step_new hK (by rw [hlp]; exact fun e => he (Option.some.inj e))).2, decide_eq_false he]; rfl
                refine Ops_know rfl rfl dl ?_
                repeat (first | refine Vx ?_ | (apply Ops_q; (case hon => exact Va); (case hd => rfl); (case hq => exact YlA)) | refine Vr ?_ | refine Vt ?_ | refine Vf ?_ | refine Vm ?_ | refine Ve ?_ | refine Vo ?_ | refine Vz ?_ | refine Vn ?_)
                rw [ei]
                (apply Ops_q; (case hon => (exact Va)); (case hd => rfl); (case hq => exact Yl_indexS (j := (lvF g i ++ lvP g p k).length - 1) rfl rfl (by omega)))
                repeat (first | refine Vx ?_ | (apply Ops_q; (case hon => exact Va); (case hd => rfl); (case hq => exact YlA)) | refine Vr ?_ | refine Vt ?_ | refine Vf ?_ | refine Vm ?_ | refine Ve ?_ | refine Vo ?_ | refine Vz ?_ | refine Vn ?_)
                rw [hst]
                exact ⟨(by repeat (first | exact trivial | refine ⟨rfl, ?_⟩)), rfl⟩
            · repeat (first | refine Vx ?_ | (apply Ops_q; (case hon => exact Va); (case hd => rfl); (case hq => exact YlA)) | refine Vr ?_ | refine Vt ?_ | refine Vf ?_ | refine Vm ?_ | refine Ve ?_ | refine Vo ?_ | refine Vz ?_ | refine Vn ?_)
              refine V_cond rfl (fun hst => ?_) (fun hst => ?_)
              · have hl' : (lvP g p k).getLast? ≠ some value := fun e => by rw [(step_same hK e).2] at hst; cases hst
                obtain ⟨s1, _⟩ := step_new hK hl'
                have hor := or_step hk hst
                repeat (first | refine Vx ?_ | (apply Ops_q; (case hon => exact Va); (case hd => rfl); (case hq => exact YlA)) | refine Vt ?_ | refine Vf ?_ | refine Vm ?_ | refine Ve ?_ | refine Vo ?_ | refine Vz ?_ | refine Vn ?_)
                refine V_region_mixed 6 (by kernel_rfl) (by kernel_rfl) rfl ?_
                repeat (first | refine Vx ?_ | (apply Ops_q; (case hon => exact Va); (case hd => rfl); (case hq => exact YlA)) | refine Vr ?_ | refine Vt ?_ | refine Vf ?_ | refine Vm ?_ | refine Ve ?_ | refine Vo ?_ | refine Vz ?_ | refine Vn ?_)
                rw [hor]
                (refine Ops_store (by exact Va) rfl rfl (by assumption) (by first | rfl | exact OneAll.h) ?_; intro wa u_wa; have k_b10 := u_wa.blk)
                have csa := h.rs.upd u_wa h.k10 h.g10 rfl rfl h.nN (own_blk_ne h.rs.oL h.k10 rfl) (own_blk_ne h.rs.oR h.k10 rfl)
                have k5a := csa.k5
                repeat (first | refine Vx ?_ | (apply Ops_q; (case hon => exact Va); (case hd => rfl); (case hq => exact YlA)) | refine Vr ?_ | refine Vt ?_ | refine Vf ?_ | refine Vm ?_ | refine Ve ?_ | refine Vo ?_ | refine Vz ?_ | refine Vn ?_)
                (refine Ops_lit (by exact Va) rfl rfl rfl ?_; intro wb bl n_bl; have k_bl := n_bl.blk)
                have csb := csa.mono n_bl.ext
                repeat (first | refine Vx ?_ | (apply Ops_q; (case hon => exact Va); (case hd => rfl); (case hq => exact YlA)) | refine Vr ?_ | refine Vt ?_ | refine Vf ?_ | refine Vm ?_ | refine Ve ?_ | refine Vo ?_ | refine Vz ?_ | refine Vn ?_)
                (refine Ops_append1 (by exact Va) rfl rfl rfl rfl csb.oL k_bl.cells inferInstance inferInstance (by first | omega | (rw [List.length_map]; omega)) rfl csb.ext.size ?_; intro vL2 wc o_vL2 g_wc d_vL2)
                obtain ⟨aN, cN, rfl, _⟩ := o_vL2.slice
                have k5c := grow_blk g_wc csb.k5 (fun e => own_blk_ne csb.oL csb.k5 rfl e.symm)
                repeat (first | refine Vx ?_ | (apply Ops_q; (case hon => exact Va); (case hd => rfl); (case hq => exact YlA)) | refine Vr ?_ | refine Vt ?_ | refine Vf ?_ | refine Vm ?_ | refine Ve ?_ | refine Vo ?_ | refine Vz ?_ | refine Vn ?_)
                (refine Ops_store (by exact Va) rfl rfl (by assumption) (by first | rfl | exact OneAll.h) ?_; intro wd u_wd; have k_b5 := u_wd.blk)
                have hfin := h.newLeaf t1 s1 t2 u_wa n_bl.ext g_wc o_vL2 u_wd
                repeat (first | refine Vx ?_ | (apply Ops_q; (case hon => exact Va); (case hd => rfl); (case hq => exact YlA)) | refine Vr ?_ | refine Vt ?_ | refine Vf ?_ | refine Vm ?_ | refine Ve ?_ | refine Vo ?_ | refine Vz ?_ | refine Vn ?_)
                exact ⟨(k + 1, _, vR), (by repeat (first | exact trivial | refine ⟨rfl, ?_⟩)), ⟨hk, hfin⟩, by simp only; omega⟩
              · have hl' : (lvP g p k).getLast? = some value := Classical.byContradiction fun e => by rw [(step_new hK e).2] at hst; cases hst
                obtain ⟨u1, _⟩ := step_same hK hl'
                have u2 : mkW (stB g p) (k + 1) = mkW (stB g p) k := by rw [mkW, hst]; rfl
                repeat (first | refine Vx ?_ | (apply Ops_q; (case hon => exact Va); (case hd => rfl); (case hq => exact YlA)) | refine Vr ?_ | refine Vt ?_ | refine Vf ?_ | refine Vm ?_ | refine Ve ?_ | refine Vo ?_ | refine Vz ?_ | refine Vn ?_)
                exact ⟨(k + 1, _, vR), (by repeat (first | exact trivial | refine ⟨rfl, ?_⟩)), ⟨hk, h.same t1 u1 t2 u2⟩, by simp only; omega⟩
      · obtain rfl : k = 64 := by have := of_decide_eq_false hg; omega
        have k10 := h.k10
        have k5 := h.rs.k5
        have hlen : ((ndsF g i).map Nd.cells).length ≤ 75418890625 := by rw [List.length_map, nds_len hi]; omega
        repeat (first | refine Vx ?_ | (apply Ops_q; (case hon => exact Va); (case hd => rfl); (case hq => exact YlA)) | refine Vr ?_ | refine Vt ?_ | refine Vf ?_ | refine Vm ?_ | refine Ve ?_ | refine Vo ?_ | refine Vz ?_ | refine Vn ?_)
        (refine Ops_lit (by exact Va) rfl rfl rfl ?_; intro wb bl n_bl; have k_bl := n_bl.blk)
        have csb := h.rs.mono n_bl.ext
        repeat (first | refine Vx ?_ | (apply Ops_q; (case hon => exact Va); (case hd => rfl); (case hq => exact YlA)) | refine Vr ?_ | refine Vt ?_ | refine Vf ?_ | refine Vm ?_ | refine Ve ?_ | refine Vo ?_ | refine Vz ?_ | refine Vn ?_)
        (refine Ops_append1 (by exact Va) rfl rfl rfl rfl csb.oN k_bl.cells inferInstance inferInstance (by first | omega | (rw [List.length_map]; omega)) rfl csb.ext.size ?_; intro vN2 wc o_vN2 g_wc d_vN2)
        obtain ⟨aN, cN, rfl, _⟩ := o_vN2.slice
        obtain ⟨aL2, cL2, rfl, _⟩ := csb.oL.slice
        have k5c := grow_blk g_wc csb.k5 (fun e => own_blk_ne csb.oN csb.k5 rfl e.symm)
        repeat (first | refine Vx ?_ | (apply Ops_q; (case hon => exact Va); (case hd => rfl); (case hq => exact YlA)) | refine Vr ?_ | refine Vt ?_ | refine Vf ?_ | refine Vm ?_ | refine Ve ?_ | refine Vo ?_ | refine Vz ?_ | refine Vn ?_)
        (refine Ops_store (by exact Va) rfl rfl (by assumption) (by first | rfl | exact OneAll.h) ?_; intro wd u_wd; have k_b5 := u_wd.blk)
        have hcd := csb.pushN (N' := ndsF g (i + 1)) g_wc (by rw [nds_step hp, List.map_append]; exact o_vN2) u_wd
        rw [← lv_step hp, ← row_step hp] at hcd
        have hi2 : i + 1 ≤ (rowF g (i + 1)).length := by rw [row_step hp, List.length_append]; omega
        repeat (first | refine Vx ?_ | (apply Ops_q; (case hon => exact Va); (case hd => rfl); (case hq => exact YlA)) | refine Vr ?_ | refine Vt ?_ | refine Vf ?_ | refine Vm ?_ | refine Ve ?_ | refine Vo ?_ | refine Vz ?_ | refine Vn ?_)
        exact ⟨(i + 1, _, _, vR), (by repeat (first | exact trivial | refine ⟨rfl, ?_⟩)), ⟨hcd, hi2⟩, by dsimp only; rw [plW_zero]; omega⟩
    · have hie : i = (rowF g i).length := by have := of_decide_eq_false hg; omega
      clear hg
      have k2 := hcs.k2
      obtain ⟨aN, cN, rfl, _⟩ := ownS hcs.oN
      have hcf : IsCf g (ndsF g i) (lvF g i) := ⟨i, hie, rfl, rfl⟩
      repeat (first | refine Vx ?_ | (apply Ops_q; (case hon => exact Va); (case hd => rfl); (case hq => exact YlA)) | refine Vr ?_ | refine Vt ?_ | refine Vf ?_ | refine Vm ?_ | refine Ve ?_ | refine Vo ?_ | refine Vz ?_ | refine Vn ?_)
      (refine Ops_store (by exact Va) rfl rfl (by assumption) (by first | rfl | exact OneAll.h) ?_; intro wb u_wb; have k_b2 := u_wb.blk)
      have xb := u_wb.below hcs.ext hcs.g2
      have oN4 := hcs.oN.upd u_wb (own_blk_ne hcs.oN hcs.k2 rfl)
      have oL4 := hcs.oL.upd u_wb (own_blk_ne hcs.oL hcs.k2 rfl)
      repeat (first | refine Vx ?_ | (apply Ops_q; (case hon => exact Va); (case hd => rfl); (case hq => exact YlA)) | refine Vr ?_ | refine Vt ?_ | refine Vf ?_ | refine Vm ?_ | refine Ve ?_ | refine Vo ?_ | refine Vz ?_ | refine Vn ?_)
      refine retR2 (.inl rfl) rfl (res_agg rfl k_b2.cells) rfl ?_
      refine Gives_mk (fun w' he => ?_) xb
      have hAN5 : Nds wb aN (ndsF g i) := by obtain ⟨a', c', e1, h1⟩ := ownS oN4; cases e1; exact h1
      have hAL5 : Ins wb aL (lvF g i) := by obtain ⟨a', c', e1, h1⟩ := ownS oL4; cases e1; exact h1
      exact ⟨aN, aL, _, _, cN, cL, by rw [h0], .inl ⟨h0, hgg ▸ hcf⟩, hAN5.ext he, hAL5.ext he⟩
  · have d0 : (!decide (chk T = 0)) = true := by rw [decide_eq_false h0]; rfl
    refine V_yes rfl d0 ?_
    repeat (first | refine Vx ?_ | (apply Ops_q; (case hon => exact Va); (case hd => rfl); (case hq => exact YlA)) | refine Vr ?_ | refine Vt ?_ | refine Vf ?_ | refine Vm ?_ | refine Ve ?_ | refine Vo ?_ | refine Vz ?_ | refine Vn ?_)
    (refine Ops_store (by exact Va) rfl rfl (by assumption) (by first | rfl | exact OneAll.h) ?_; intro w2 u_w2; have k_b2 := u_w2.blk)
    have x2 := u_w2.below x1 g2
    repeat (first | refine Vx ?_ | (apply Ops_q; (case hon => exact Va); (case hd => rfl); (case hq => exact YlA)) | refine Vr ?_ | refine Vt ?_ | refine Vf ?_ | refine Vm ?_ | refine Ve ?_ | refine Vo ?_ | refine Vz ?_ | refine Vn ?_)
    refine retR2 (.inl rfl) rfl (res_agg rfl k_b2.cells) rfl ?_
    exact Gives_mk (fun w' he => ⟨none, none, [], [], 0, 0, rfl, .inr ⟨h0, rfl, rfl⟩, Arr.nil, Arr.nil⟩) x2
end Go.Proofs.Ytjpnaofoeeegeaa

/-
  Stride tables (layer 8): the examples that each statement looks at.
  No conditions.
-/
namespace Go.Proofs.Ytjpnaofoeeegeaa
open Go.RowKit

/-! ### Forms of one node -/
def lvU (u : Nat → Int) : Nat → List Int
  | 0 => []
  | x + 1 => if (lvU u x).getLast? = some (u x) then lvU u x else lvU u x ++ [u x]
def stU (u : Nat → Int) (x : Nat) : Bool := !decide ((lvU u x).getLast? = some (u x))
section
variable {f : Nat → Int} {u : Nat → Int}
theorem one_K (h : ∀ a, a < 4294967296 → f a = u (a / 67108864)) {x : Nat} (hx : x < 64) : digK f (0, 0) x = some (some (u x)) := by
  have e2 : nsz (0 + 1) = 67108864 := rfl
  have e1 : digLo 0 0 x = x * 67108864 := by unfold digLo; rw [if_pos (by omega), Nat.zero_add, e2]
  have hf : flat f (digLo 0 0 x) (digLo 0 0 x + nsz (0 + 1)) = true := flat_iff.2 fun a h1 h2 => by
    rw [e1] at h1 h2 ⊢
    rw [e2] at h2
    rw [h a (by omega), h _ (by omega)]
    congr 1; omega
  unfold digK
  dsimp only
  rw [if_pos (show digOk 0 x = true from rfl), if_pos hf, e1, h _ (by omega), Nat.mul_div_cancel _ (by omega)]
theorem one_in {p : Nat × Nat} (hK : ∀ x, x < 64 → digK f p x = some (some (u x))) {x : Nat} (hx : x < 64) : inB f p x = false := by unfold inB; rw [hK x hx]
theorem one_lv {p : Nat × Nat} (hK : ∀ x, x < 64 → digK f p x = some (some (u x))) : ∀ x, x ≤ 64 → lvP f p x = lvU u x
  | 0, _ => rfl
  | x + 1, hx => by rw [lvP, lvU, hK x (by omega), one_lv hK x (by omega)]
theorem one_st {p : Nat × Nat} (hK : ∀ x, x < 64 → digK f p x = some (some (u x))) {x : Nat} (hx : x < 64) : stB f p x = stU u x := by unfold stB stU; rw [hK x hx, one_lv hK x (by omega)]
theorem one_kd {p : Nat × Nat} (hK : ∀ x, x < 64 → digK f p x = some (some (u x))) : ∀ x, x ≤ 64 → kdP f p x = []
  | 0, _ => rfl
  | x + 1, hx => by rw [kdP, one_in hK (show x < 64 by omega), if_neg (by decide), one_kd hK x (by omega)]
theorem mkW_false : ∀ k, mkW (fun _ => false) k = 0
  | 0 => rfl
  | k + 1 => by rw [mkW, if_neg (by decide), mkW_false k]
theorem one_row {p : Nat × Nat} (hp0 : p = (0, 0)) (hK : ∀ x, x < 64 → digK f p x = some (some (u x))) {n : Nat} (hn : n = 64) : rowF f 1 = [p] ∧ ndsF f 1 = [⟨0, mkW (stU u) n, 1, 0⟩] ∧ lvF f 1 = lvU u n := by
  have hp : (rowF f 0)[0]? = some p := by rw [hp0]; rfl
  have hr0 : rowF f 0 = [p] := by rw [hp0]; rfl
  clear hp0
  have h0 : mkW (inB f p) n = 0 := by rw [mkW_congr (Q := fun _ => false) (fun x hx => one_in hK (by omega))]; exact mkW_false n
  have h1 : mkW (stB f p) n = mkW (stU u) n := mkW_congr (fun x hx => one_st hK (by omega))
  have h2 := one_kd hK n (by omega)
  have h3 := one_lv hK n (by omega)
  have e1 := row_step hp
  have e2 := nds_step hp
  have e3 := lv_step hp
  rw [ndF, hr0] at e2
  rw [hr0] at e1
  rw [← hn] at e1 e2 e3
  rw [h2, List.append_nil] at e1
  rw [h0, h1] at e2
  rw [h3] at e3
  clear h0 h1 h2 h3
  generalize mkW (stU u) n = W at *
  generalize lvU u n = V at *
  exact ⟨e1, e2, e3⟩
end
theorem isCf_one {f : Nat → Int} {u : Nat → Int} {n W : Nat} {V : List Int} (h : ∀ a, a < 4294967296 → f a = u (a / 67108864)) (hn : n = 64) (hW : mkW (stU u) n = W) (hV : lvU u n = V) : IsCf f [⟨0, W, 1, 0⟩] V := by
  obtain ⟨h1, h2, h3⟩ := one_row rfl (fun x hx => one_K h hx) hn
  rw [hW] at h2
  rw [hV] at h3
  exact ⟨1, by rw [h1]; rfl, h2.symm, h3.symm⟩
def exT1 : List En := [⟨⟨4227858432, 6⟩, 1⟩]
def exT2 : List En := [⟨⟨0, 0⟩, 7⟩]
def exU1 (x : Nat) : Int := if x = 63 then 1 else -1
theorem ex1_chk : chk exT1 = 0 := by decide +kernel
theorem ex2_chk : chk exT2 = 0 := by decide +kernel
theorem lk_one (e : En) (a : Nat) (hn : (-1 : Int) < e.p.n) : lk [e] a = if e.p.has a = true then e.v else -1 := by
  unfold lk
  rw [List.foldl_cons, List.foldl_nil, lkS, decide_eq_true hn, Bool.true_and]
  split <;> rfl
theorem ex1_lk (a : Nat) (ha : a < 4294967296) : lk exT1 a = exU1 (a / 67108864) := by
  have hv : (⟨4227858432, 6⟩ : Pf).valid = true := by decide +kernel
  have hl : (⟨4227858432, 6⟩ : Pf).last = 4294967295 := by decide +kernel
  rw [exT1, lk_one _ _ (by decide)]
  unfold exU1
  by_cases h : 4227858432 ≤ a
  · rw [if_pos ((has_iff hv).2 ⟨h, by rw [hl]; omega⟩), if_pos (by omega)]
  · rw [if_neg (fun hc => h ((has_iff hv).1 hc).1), if_neg (by omega)]
theorem ex2_lk (a : Nat) (ha : a < 4294967296) : lk exT2 a = (fun _ => 7) (a / 67108864) := by
  have hv : (⟨0, 0⟩ : Pf).valid = true := by decide +kernel
  have hl : (⟨0, 0⟩ : Pf).last = 4294967295 := by decide +kernel
  rw [exT2, lk_one _ _ (by decide), if_pos ((has_iff hv).2 ⟨Nat.zero_le _, by rw [hl]; omega⟩)]
def exN1 : List Nd := [⟨0, 9223372036854775809, 1, 0⟩]
def exN2 : List Nd := [⟨0, 1, 1, 0⟩]
theorem ex1_cf : IsCf (lk exT1) exN1 [-1, 1] := by
  exact isCf_one (u := exU1) ex1_lk rfl (by decide +kernel) (by decide +kernel)
theorem ex2_cf : IsCf (lk exT2) exN2 [7] := by
  exact isCf_one (u := fun _ => 7) ex2_lk rfl (by decide +kernel) (by decide +kernel)
theorem lk_ge {T : List En} (h : chk T = 0) (a : Nat) : -1 ≤ lk T a := by
  have hT := (chk_iff.1 h).2
  unfold lk
  have : ∀ (l : List En) (s : Int × Int), (∀ e ∈ l, -1 ≤ e.v) → -1 ≤ s.1 → -1 ≤ (l.foldl (lkS a) s).1 := by
    intro l
    induction l with
    | nil => intro s _ hs; exact hs
    | cons e l ih =>
      intro s hl hs
      rw [List.foldl_cons]
      refine ih _ (fun x hx => hl x (List.mem_cons_of_mem _ hx)) ?_
      rw [lkS]; split
      · exact hl e (List.mem_cons_self ..)
      · exact hs
  exact this T _ (fun e he => (hT.ok e he).2) (by decide)
theorem geM_lk {T : List En} (h : chk T = 0) : GeM (lk T) := fun a _ => lk_ge h a
/-- A list of one entry, written out. -/
theorem ens_lit {w w1 : World} {b : Nat} {e : TypeId} {x : En} (h : New w w1 b e x.cells) : Ens w1 (some ⟨b, 0, none⟩) [x] := by
  obtain ⟨ao, c, h1, h2⟩ := (own_litN h (n0 := 3) rfl).slice
  cases h1
  exact h2
theorem nds_lit {w w1 : World} {b : Nat} {e : TypeId} {x : Nd} (h : New w w1 b e x.cells) : Nds w1 (some ⟨b, 0, none⟩) [x] := by
  obtain ⟨ao, c, h1, h2⟩ := (own_litN h (n0 := 4) rfl).slice
  cases h1
  exact h2
theorem ins_lit {w w1 : World} {b : Nat} {e : TypeId} {L : List Int} (h : New w w1 b e (L.map fun v => .int .i64 v)) : Ins w1 (some ⟨b, 0, none⟩) L := fun k u hk => by
  rw [List.getElem?_map] at hk
  obtain ⟨v, hv, rfl⟩ := Option.map_eq_some_iff.1 hk
  refine ⟨_, rfl, fun j u hj => ?_⟩
  rcases j with _ | j
  · simp only [ic, List.getElem?_cons_zero, Option.some.injEq] at hj
    subst hj
    rw [add_add, Nat.add_zero, Nat.mul_one]
    exact h.blk.cells k _ (by rw [List.getElem?_map, hv]; rfl)
  · simp [ic] at hj
set_option maxHeartbeats 2000000 in
theorem awake8_v (w : World) : Calls Try.prog 18 #[] w (Ret (.bool true) w) := by
  refine V_enter (vs := []) Try.func18 rfl Try.ntmps18 (Nat.le_of_ble_eq_true rfl) ?_
  repeat (first | refine Vx ?_ | (apply Ops_q; (case hon => exact Va); (case hd => rfl); (case hq => exact YlA)) | refine Vr ?_ | refine Vt ?_ | refine Vf ?_ | refine Vm ?_ | refine Ve ?_ | refine Vo ?_ | refine Vz ?_ | refine Vn ?_)
  (refine Ops_lit (by exact Va) rfl rfl rfl ?_; intro w1 b1 n_b1; have k_b1 := n_b1.blk)
  have hT1 : Ens w1 (some ⟨b1, 0, none⟩) exT1 := ens_lit (x := ⟨⟨4227858432, 6⟩, 1⟩) n_b1
  have x1 := n_b1.ext
  clear n_b1 k_b1
  repeat (first | refine Vx ?_ | (apply Ops_q; (case hon => exact Va); (case hd => rfl); (case hq => exact YlA)) | refine Vr ?_ | refine Vt ?_ | refine Vf ?_ | refine Vm ?_ | refine Ve ?_ | refine Vo ?_ | refine Vz ?_ | refine Vn ?_)
  refine Ops_callR (R := fun _ r w' => BldR exT1 r w') (by exact Va) rfl rfl (fun w_ e_ => build_v (some ⟨b1, 0, none⟩) exT1 1 w_ (hT1.ext e_) (by decide) (by decide)) ?_
  intro v2 w2 w0_ e0 e1 hR
  obtain ⟨aN, aL, N, L, cN, cL, rfl, hB, hN, hL⟩ := hR
  have x2 := x1.trans (e0.trans e1)
  obtain ⟨rfl, rfl⟩ : exN1 = N ∧ [-1, 1] = L := BldOk.unique (.inl ⟨ex1_chk, ex1_cf⟩) hB
  rw [ex1_chk]
  clear hB e0 e1 x1 hT1
  repeat (first | refine Vx ?_ | (apply Ops_q; (case hon => exact Va); (case hd => rfl); (case hq => exact YlA)) | refine Vr ?_ | refine Vt ?_ | refine Vf ?_ | refine Vm ?_ | refine Ve ?_ | refine Vo ?_ | refine Vz ?_ | refine Vn ?_)
  (refine Ops_alloc (by exact Va) rfl ?_; intro w3 b3 n_b3; have k_b3 := n_b3.blk)
  repeat (first | refine Vx ?_ | (apply Ops_q; (case hon => exact Va); (case hd => rfl); (case hq => exact YlA)) | refine Vr ?_ | refine Vt ?_ | refine Vf ?_ | refine Vm ?_ | refine Ve ?_ | refine Vo ?_ | refine Vz ?_ | refine Vn ?_)
  (refine Ops_store (by exact Va) rfl rfl (by assumption) (by first | rfl | exact OneAll.h) ?_; intro w4 u_w4; have k_b3 := u_w4.blk)
  have y4 : Ext w2 w4 := u_w4.below n_b3.ext n_b3.ge
  have x4 := x2.trans y4
  replace hN := hN.ext y4
  replace hL := hL.ext y4
  clear u_w4 n_b3 y4 x2
  repeat (first | refine Vx ?_ | (apply Ops_q; (case hon => exact Va); (case hd => rfl); (case hq => exact YlA)) | refine Vr ?_ | refine Vt ?_ | refine Vf ?_ | refine Vm ?_ | refine Ve ?_ | refine Vo ?_ | refine Vz ?_ | refine Vn ?_)
  (refine Ops_lit (by exact Va) rfl rfl rfl ?_; intro w5 b5 n_b5; have k_b5 := n_b5.blk)
  have hT2 : Ens w5 (some ⟨b5, 0, none⟩) exT2 := ens_lit (x := ⟨⟨0, 0⟩, 7⟩) n_b5
  have y5 := n_b5.ext
  clear n_b5 k_b5
  repeat (first | refine Vx ?_ | (apply Ops_q; (case hon => exact Va); (case hd => rfl); (case hq => exact YlA)) | refine Vr ?_ | refine Vt ?_ | refine Vf ?_ | refine Vm ?_ | refine Ve ?_ | refine Vo ?_ | refine Vz ?_ | refine Vn ?_)
  refine Ops_callR (R := fun _ r w' => BldR exT2 r w') (by exact Va) rfl rfl (fun w_ e_ => build_v (some ⟨b5, 0, none⟩) exT2 1 w_ (hT2.ext e_) (by decide) (by decide)) ?_
  intro v6 w6 w0_ e0 e1 hR
  obtain ⟨aM, aK, M, K, cM, cK, rfl, hB, hM, hK⟩ := hR
  have y6 := y5.trans (e0.trans e1)
  obtain ⟨rfl, rfl⟩ : exN2 = M ∧ [7] = K := BldOk.unique (.inl ⟨ex2_chk, ex2_cf⟩) hB
  rw [ex2_chk]
  replace hN := hN.ext y6
  replace hL := hL.ext y6
  replace k_b3 := k_b3.ext y6
  replace x4 := x4.trans y6
  clear hB e0 e1 y5 y6 hT2
  repeat (first | refine Vx ?_ | (apply Ops_q; (case hon => exact Va); (case hd => rfl); (case hq => exact YlA)) | refine Vr ?_ | refine Vt ?_ | refine Vf ?_ | refine Vm ?_ | refine Ve ?_ | refine Vo ?_ | refine Vz ?_ | refine Vn ?_)
  (refine Ops_alloc (by exact Va) rfl ?_; intro w7 b7 n_b7; have k_b7 := n_b7.blk)
  repeat (first | refine Vx ?_ | (apply Ops_q; (case hon => exact Va); (case hd => rfl); (case hq => exact YlA)) | refine Vr ?_ | refine Vt ?_ | refine Vf ?_ | refine Vm ?_ | refine Ve ?_ | refine Vo ?_ | refine Vz ?_ | refine Vn ?_)
  (refine Ops_store (by exact Va) rfl rfl (by assumption) (by first | rfl | exact OneAll.h) ?_; intro w8 u_w8; have k_b7 := u_w8.blk)
  have y8 : Ext w6 w8 := u_w8.below n_b7.ext n_b7.ge
  replace hN := hN.ext y8
  replace hL := hL.ext y8
  replace hM := hM.ext y8
  replace hK := hK.ext y8
  replace k_b3 := k_b3.ext y8
  replace x4 := x4.trans y8
  clear u_w8 n_b7 y8
  repeat (first | refine Vx ?_ | (apply Ops_q; (case hon => exact Va); (case hd => rfl); (case hq => exact YlA)) | refine Vr ?_ | refine Vt ?_ | refine Vf ?_ | refine Vm ?_ | refine Ve ?_ | refine Vo ?_ | refine Vz ?_ | refine Vn ?_)
  refine Ops_callR (R := fun _ r _ => LkC exN1 [-1, 1] 4278190080 r) (by exact Va) rfl rfl (fun w_ e_ => lookupS_v aN aL exN1 [-1, 1] cN cL 4278190080 w_ (hN.ext e_) (hL.ext e_) ex1_cf.w (by decide) (by decide) (by decide)) ?_
  intro v9 w9 w0_ e0 e1 hR
  have e_w9 := e0.trans e1
  obtain rfl : v9 = .tuple #[.int .i64 1, .int .i64 1] := by
    rcases hR with ⟨g, hg, hc, rfl⟩ | ⟨hno, _⟩
    · have hs : ∀ a, a < 4294967296 → g a = lk exT1 a := fun a ha => isCf_inj hc ex1_cf ha
      have hv : g 4278190080 = 1 := by rw [hs _ (by decide), ex1_lk _ (by decide)]; decide
      have hi := one_in (f := g) (u := exU1) (p := (0, 0)) (fun x hx => one_K (fun a ha => by rw [hs a ha]; exact ex1_lk a ha) hx) (digN_lt 4278190080 0)
      have hd : dep g 4278190080 6 (0, 0) = 1 := by rw [dep]; dsimp only; rw [hi]; rfl
      rw [hv, hd]; rfl
    · exact absurd ex1_cf (hno _ (geM_lk ex1_chk))
  clear hR e0 e1
  replace hN := hN.ext e_w9
  replace hL := hL.ext e_w9
  replace hM := hM.ext e_w9
  replace hK := hK.ext e_w9
  replace k_b3 := k_b3.ext e_w9
  replace k_b7 := k_b7.ext e_w9
  replace x4 := x4.trans e_w9
  clear e_w9
  repeat (first | refine Vx ?_ | (apply Ops_q; (case hon => exact Va); (case hd => rfl); (case hq => exact YlA)) | refine Vr ?_ | refine Vt ?_ | refine Vf ?_ | refine Vm ?_ | refine Ve ?_ | refine Vo ?_ | refine Vz ?_ | refine Vn ?_)
  (refine Ops_lit (by exact Va) rfl rfl rfl ?_; intro wa ba n_ba; have k_ba := n_ba.blk)
  have hP : Nds wa (some ⟨ba, 0, none⟩) exN1 := nds_lit (x := ⟨0, 9223372036854775809, 1, 0⟩) n_ba
  have ea := n_ba.ext
  clear n_ba k_ba
  repeat (first | refine Vx ?_ | (apply Ops_q; (case hon => exact Va); (case hd => rfl); (case hq => exact YlA)) | refine Vr ?_ | refine Vt ?_ | refine Vf ?_ | refine Vm ?_ | refine Ve ?_ | refine Vo ?_ | refine Vz ?_ | refine Vn ?_)
  (refine Ops_lit (by exact Va) rfl rfl rfl ?_; intro wb bb n_bb; have k_bb := n_bb.blk)
  have hQ : Ins wb (some ⟨bb, 0, none⟩) [-1, 1] := ins_lit (L := [-1, 1]) n_bb
  have eb := n_bb.ext
  clear n_bb k_bb
  repeat (first | refine Vx ?_ | (apply Ops_q; (case hon => exact Va); (case hd => rfl); (case hq => exact YlA)) | refine Vr ?_ | refine Vt ?_ | refine Vf ?_ | refine Vm ?_ | refine Ve ?_ | refine Vo ?_ | refine Vz ?_ | refine Vn ?_)
  (refine Ops_alloc (by exact Va) rfl ?_; intro wc bc n_bc; have k_bc := n_bc.blk)
  repeat (first | refine Vx ?_ | (apply Ops_q; (case hon => exact Va); (case hd => rfl); (case hq => exact YlA)) | refine Vr ?_ | refine Vt ?_ | refine Vf ?_ | refine Vm ?_ | refine Ve ?_ | refine Vo ?_ | refine Vz ?_ | refine Vn ?_)
  (refine Ops_store (by exact Va) rfl rfl (by assumption) (by first | rfl | exact OneAll.h) ?_; intro wd u_wd; have k_bc := u_wd.blk)
  have ed : Ext wb wd := u_wd.below n_bc.ext n_bc.ge
  have e2 := ea.trans (eb.trans ed)
  replace hN := hN.ext e2
  replace hL := hL.ext e2
  replace hM := hM.ext e2
  replace hK := hK.ext e2
  replace hP := hP.ext (eb.trans ed)
  replace hQ := hQ.ext ed
  replace k_b3 := k_b3.ext e2
  replace k_b7 := k_b7.ext e2
  replace x4 := x4.trans e2
  clear u_wd n_bc ea eb ed e2
  repeat (first | refine Vx ?_ | (apply Ops_q; (case hon => exact Va); (case hd => rfl); (case hq => exact YlA)) | refine Vr ?_ | refine Vt ?_ | refine Vf ?_ | refine Vm ?_ | refine Ve ?_ | refine Vo ?_ | refine Vz ?_ | refine Vn ?_)
  (apply Ops_q; (case hon => (exact Va)); (case hd => rfl); (case hq => exact Yl_call rfl (fun w_ e_ => sameL_v aN (some ⟨ba, 0, none⟩) aL (some ⟨bb, 0, none⟩) exN1 exN1 [-1, 1] [-1, 1] cN 1 cL 2 w_ (hN.ext e_) (hP.ext e_) (hL.ext e_) (hQ.ext e_) (by decide) (by decide))))
  rw [decide_eq_true (show exN1 = exN1 ∧ ([-1, 1] : List Int) = [-1, 1] from ⟨rfl, rfl⟩)]
  repeat (first | refine Vx ?_ | (apply Ops_q; (case hon => exact Va); (case hd => rfl); (case hq => exact YlA)) | refine Vr ?_ | refine Vt ?_ | refine Vf ?_ | refine Vm ?_ | refine Ve ?_ | refine Vo ?_ | refine Vz ?_ | refine Vn ?_)
  (refine Ops_lit (by exact Va) rfl rfl rfl ?_; intro we be n_be; have k_be := n_be.blk)
  have hP2 : Nds we (some ⟨be, 0, none⟩) exN2 := nds_lit (x := ⟨0, 1, 1, 0⟩) n_be
  have ee := n_be.ext
  clear n_be k_be
  repeat (first | refine Vx ?_ | (apply Ops_q; (case hon => exact Va); (case hd => rfl); (case hq => exact YlA)) | refine Vr ?_ | refine Vt ?_ | refine Vf ?_ | refine Vm ?_ | refine Ve ?_ | refine Vo ?_ | refine Vz ?_ | refine Vn ?_)
  (refine Ops_lit (by exact Va) rfl rfl rfl ?_; intro wf bf n_bf; have k_bf := n_bf.blk)
  have hQ2 : Ins wf (some ⟨bf, 0, none⟩) [7] := ins_lit (L := [7]) n_bf
  have ef := n_bf.ext
  replace hP2 := hP2.ext ef
  have e2 := ee.trans ef
  replace hN := hN.ext e2
  replace hL := hL.ext e2
  replace hM := hM.ext e2
  replace hK := hK.ext e2
  replace k_b3 := k_b3.ext e2
  replace x4 := x4.trans e2
  clear n_bf k_bf ee ef
  repeat (first | refine Vx ?_ | (apply Ops_q; (case hon => exact Va); (case hd => rfl); (case hq => exact YlA)) | refine Vr ?_ | refine Vt ?_ | refine Vf ?_ | refine Vm ?_ | refine Ve ?_ | refine Vo ?_ | refine Vz ?_ | refine Vn ?_)
  (apply Ops_q; (case hon => (exact Va)); (case hd => rfl); (case hq => exact Yl_call rfl (fun w_ e_ => sameL_v aM (some ⟨be, 0, none⟩) aK (some ⟨bf, 0, none⟩) exN2 exN2 [7] [7] cM 1 cK 1 w_ (hM.ext e_) (hP2.ext e_) (hK.ext e_) (hQ2.ext e_) (by decide) (by decide))))
  rw [decide_eq_true (show exN2 = exN2 ∧ ([7] : List Int) = [7] from ⟨rfl, rfl⟩)]
  repeat (first | refine Vx ?_ | (apply Ops_q; (case hon => exact Va); (case hd => rfl); (case hq => exact YlA)) | refine Vr ?_ | refine Vt ?_ | refine Vf ?_ | refine Vm ?_ | refine Ve ?_ | refine Vo ?_ | refine Vz ?_ | refine Vn ?_)
  refine Ops_callR (R := fun _ r _ => ∃ v, r = .int .i64 v ∧ ChkC exN1 [-1, 1] v) (by exact Va) rfl rfl (fun w_ e_ => checkS_v aN aL exN1 [-1, 1] cN cL w_ (hN.ext e_) (hL.ext e_) ex1_cf.w (by decide) (by decide)) ?_
  intro vg wg w0_ e0 e1 hR
  obtain ⟨v, rfl, hv⟩ := hR
  obtain rfl : v = 0 := by
    rcases hv with ⟨h, _⟩ | ⟨_, hno⟩
    · exact h
    · exact absurd ex1_cf (hno _ (geM_lk ex1_chk))
  repeat (first | refine Vx ?_ | (apply Ops_q; (case hon => exact Va); (case hd => rfl); (case hq => exact YlA)) | refine Vr ?_ | refine Vt ?_ | refine Vf ?_ | refine Vm ?_ | refine Ve ?_ | refine Vo ?_ | refine Vz ?_ | refine Vn ?_)
  refine ret1 (by first | exact .inl rfl | exact .inr rfl) rfl rfl ?_
  exact Ret_mk rfl (x4.trans (e0.trans e1))
end Go.Proofs.Ytjpnaofoeeegeaa

/-
  What lies behind an argument that is a slice: a list, each of whose elements is read by its type.
  No conditions beyond those that each statement names.
-/
namespace Go.Proofs.Ytjpnaofoeeegeaa
open Go.ChangeShapes Go.WideShapes Go.ChangeAt Go.RowKit Go.Joins Go.Deep

section
variable {H : Type} {enc : TypeId × Value → H} {P : Program} {w : World} {base : Nat} {spare : Nat → Bool} {held : Bool}
/-- The cells read as a datum of the type. -/
def Reads (enc : TypeId × Value → H) (P : Program) (w : World) (base : Nat) (spare : Nat → Bool) (held : Bool) (t : TypeId) (cs : List Value) : Prop := ∃ n x, DataW.trod enc P w base spare held n t cs = some x
theorem reads_of {t : TypeId} {v : Value} {d : DataW H} {p : List MemPlace} (h : DataW.Trod enc P w base spare held t v d p) : Reads enc P w base spare held t v.cells.toList := by
  obtain ⟨n, hf⟩ := h
  exact ⟨n, _, hf⟩
theorem reads_int {t : TypeId} {k : IntKind} {cs : List Value} (ht : P.underlying t = some (.int k)) (h : Reads enc P w base spare held t cs) : ∃ n, cs = [.int k n] ∧ (Lit.int k n).wf = true := by
  obtain ⟨n, x, h⟩ := h
  obtain ⟨n, h1, _, h2⟩ := DataW.trod_int ht h
  exact ⟨n, h1, h2⟩
theorem reads_bool {t : TypeId} {cs : List Value} (ht : P.underlying t = some .bool) (h : Reads enc P w base spare held t cs) : ∃ b, cs = [.bool b] := by
  obtain ⟨n, x, h⟩ := h
  obtain ⟨b, h1, _⟩ := DataW.trod_bool ht h
  exact ⟨b, h1⟩
theorem reads_slice {t e : TypeId} {cs : List Value} (ht : P.underlying t = some (.slice e)) (h : Reads enc P w base spare held t cs) :
    ∃ (ao : Option Addr) (len cap : Nat) (D : Nat → List Value), cs = [.slice ao len cap] ∧ len ≤ cap ∧ cap ≤ maxLen ∧ (ao = none → len = 0) ∧
      ∀ i, i < len → ∃ ad, ao = some ad ∧ (D i).length = P.cellsOf e ∧ Cells w (ad.add (i * P.cellsOf e)) (D i) ∧ Reads enc P w base spare held e (D i) := by
  obtain ⟨n, x, h⟩ := h
  rcases open_slice ht h with ⟨rfl, _⟩ | ⟨a, len, cap, m, n, D, Pl, rfl, hb, hl, hm, hmm, _, hx⟩
  · exact ⟨none, 0, 0, fun _ => [], rfl, Nat.le_refl _, Nat.zero_le _, fun _ => rfl, fun i h => by omega⟩
  · have hlm : len ≤ m := by rw [hmm]; split <;> omega
    have each : ∀ i, i < len → ∃ q : List Value, q.length = P.cellsOf e ∧ Cells w (a.add (i * P.cellsOf e)) q ∧ Reads enc P w base spare held e q := by
      intro i hi
      obtain ⟨cs', h1, h2⟩ := hx i (by omega)
      obtain ⟨_, hlen, hcell⟩ := World.cells?_some h1
      refine ⟨cs', hlen, fun j v hj => ?_, n, _, h2⟩
      rw [hcell j (by rw [← hlen]; exact (List.getElem?_eq_some_iff.1 hj).1)]
      exact hj
    obtain ⟨q, hq⟩ := choose_lt each
    exact ⟨some a, len, cap, q, rfl, hl, hm, (fun h => by cases h), fun i hi => ⟨a, rfl, (hq i hi).1, (hq i hi).2.1, (hq i hi).2.2⟩⟩
/-- A slice of elements each of which is read by 'dec'. -/
theorem reads_list {t e : TypeId} {cs : List Value} {α : Type} {n0 : Nat} {φ : α → Prop} (en : α → List Value) (ht : P.underlying t = some (.slice e)) (hC : P.cellsOf e = n0) (h : Reads enc P w base spare held t cs)
    (dec : ∀ cs, Reads enc P w base spare held e cs → cs.length = n0 → ∃ a : α, cs = en a ∧ φ a) :
    ∃ (ao : Option Addr) (L : List α) (c : Nat), cs = [.slice ao L.length c] ∧ Arr w n0 ao (L.map en) ∧ L.length ≤ c ∧ c ≤ maxLen ∧ ∀ x ∈ L, φ x := by
  obtain ⟨ao, len, cap, D, rfl, hl, hm, hn, hD⟩ := reads_slice ht h
  have each : ∀ i, i < len → ∃ a : α, D i = en a ∧ φ a := fun i hi => by
    obtain ⟨ad, _, h2, _, h4⟩ := hD i hi
    exact dec (D i) h4 (h2.trans hC)
  have hlist : ∀ k, k ≤ len → ∃ L : List α, L.length = k ∧ (∀ x ∈ L, φ x) ∧ ∀ i x, L[i]? = some x → D i = en x := by
    intro k
    induction k with
    | zero => exact fun _ => ⟨[], rfl, by simp, fun i x h => by simp at h⟩
    | succ k ih =>
      intro hk
      obtain ⟨L, h1, h2, h3⟩ := ih (by omega)
      obtain ⟨a, ha, hφ⟩ := each k (by omega)
      refine ⟨L ++ [a], by simp [h1], fun x hx => ?_, fun i x hi => ?_⟩
      · rcases List.mem_append.1 hx with hx | hx
        · exact h2 x hx
        · obtain rfl := List.mem_singleton.1 hx; exact hφ
      · rw [List.getElem?_append] at hi
        split at hi
        · exact h3 i x hi
        · rename_i hge
          have : i = k := by
            have := (List.getElem?_eq_some_iff.1 hi).1
            simp at this; omega
          subst this
          rw [h1, Nat.sub_self] at hi
          cases hi
          exact ha
  obtain ⟨L, h1, h2, h3⟩ := hlist len (Nat.le_refl _)
  subst h1
  refine ⟨ao, L, cap, rfl, fun k x hk => ?_, hl, hm, h2⟩
  rw [List.getElem?_map] at hk
  obtain ⟨a, ha, rfl⟩ := Option.map_eq_some_iff.1 hk
  obtain ⟨ad, e1, _, e3, _⟩ := hD k (List.getElem?_eq_some_iff.1 ha).1
  rw [hC, h3 k a ha] at e3
  exact ⟨ad, e1, e3⟩
/-- A struct's fields, each of which reads by its own type. -/
theorem reads_struct {t : TypeId} {fs : Array Field} {cs : List Value} (ht : P.underlying t = some (.struct fs)) (h : Reads enc P w base spare held t cs) :
    cs.length = P.cellsOf t ∧ ∀ (i : Nat) (f : Field), fs[i]? = some f → Reads enc P w base spare held f.type ((cs.drop f.offset).take (P.cellsOf f.type)) := by
  obtain ⟨n, x, h⟩ := h
  obtain ⟨xs, m, _, _, h1, h2, h3⟩ := DataW.trod_struct ht h
  refine ⟨h1, fun i f hf => ⟨m, ?_⟩⟩
  have := h3 i f hf
  have hi : i < xs.length := by rw [h2]; exact (Array.getElem?_eq_some_iff.1 hf).1
  rw [List.getElem?_eq_getElem hi] at this
  exact ⟨_, this⟩
/-- A struct of fields of one cell each. -/
theorem reads_flat {t : TypeId} {fs : Array Field} {cs : List Value} (ht : P.underlying t = some (.struct fs)) (hone : oneCellFields P fs = true) (hC : P.cellsOf t = fs.size) (h : Reads enc P w base spare held t cs) :
    cs.length = fs.size ∧ ∀ (i : Nat) (f : Field) (v : Value), fs[i]? = some f → cs[i]? = some v → Reads enc P w base spare held f.type [v] := by
  obtain ⟨h1, h2⟩ := reads_struct ht h
  refine ⟨h1.trans hC, fun i f v hf hv => ?_⟩
  obtain ⟨ho, hk⟩ := hone_of hone i f hf
  have := h2 i f hf
  rw [ho, hk] at this
  have hi := List.getElem?_eq_some_iff.1 hv
  obtain ⟨hi, e⟩ := hi
  rw [List.drop_eq_getElem_cons hi, e] at this
  exact this
/-- An argument that is a slice. -/
theorem open_list {t e : TypeId} {v : Value} {d : DataW H} {p : List MemPlace} {b0 : Nat} {α : Type} {n0 : Nat} {φ : α → Prop} (en : α → List Value) (ht : P.underlying t = some (.slice e)) (hC : P.cellsOf e = n0) (hv : Value.okWide P w .any b0 t v)
    (h : DataW.Trod enc P w base spare held t v d p) (dec : ∀ cs, Reads enc P w base spare held e cs → cs.length = n0 → ∃ a : α, cs = en a ∧ φ a) :
    ∃ (ao : Option Addr) (L : List α) (c : Nat), v = .slice ao L.length c ∧ Arr w n0 ao (L.map en) ∧ L.length ≤ c ∧ c ≤ maxLen ∧ ∀ x ∈ L, φ x := by
  obtain ⟨ao, n, c, rfl⟩ := okWide_slice ht hv
  obtain ⟨ao', L, c', h1, h2⟩ := reads_list en ht hC (reads_of h) dec
  have : (Value.slice ao n c).cells.toList = [.slice ao n c] := rfl
  rw [this] at h1
  simp only [List.cons.injEq, Value.slice.injEq, and_true] at h1
  obtain ⟨rfl, rfl, rfl⟩ := h1
  exact ⟨ao, L, c, rfl, h2⟩
end
end Go.Proofs.Ytjpnaofoeeegeaa

/-
  Entries: the arguments, read off what the rows say.
  No conditions beyond those that each statement names.
-/
namespace Go.Proofs.Ytjpnaofoeeegeaa
open Go.ChangeShapes Go.WideShapes Go.ChangeAt Go.RowKit Go.Joins Go.Deep

theorem own : ownKnob Try.prog.godebug = none := by kernel_rfl
theorem uPrefix : ∃ fs, Try.prog.underlying 40 = some (.struct fs) ∧ fs.map (fun f => (f.type, f.offset)) = #[(24, 0), (3, 1)] := ⟨_, Try.underlying40, by kernel_rfl⟩
theorem uEntry : ∃ fs, Try.prog.underlying 42 = some (.struct fs) ∧ fs.map (fun f => (f.type, f.offset)) = #[(40, 0), (3, 2)] := ⟨_, Try.underlying42, by kernel_rfl⟩
theorem two_fields {fs : Array Field} {t0 t1 : TypeId} {o0 o1 : Nat} (h : fs.map (fun f => (f.type, f.offset)) = #[(t0, o0), (t1, o1)]) : ∃ f0 f1, fs[0]? = some f0 ∧ fs[1]? = some f1 ∧ f0.type = t0 ∧ f0.offset = o0 ∧ f1.type = t1 ∧ f1.offset = o1 := by
  have hs : fs.size = 2 := by have := congrArg Array.size h; simpa using this
  have h0 : fs[0]? = some (fs[0]'(by omega)) := Array.getElem?_eq_getElem (by omega)
  have h1 : fs[1]? = some (fs[1]'(by omega)) := Array.getElem?_eq_getElem (by omega)
  have e0 : (fs.map (fun f => (f.type, f.offset)))[0]? = some (t0, o0) := by rw [h]; rfl
  have e1 : (fs.map (fun f => (f.type, f.offset)))[1]? = some (t1, o1) := by rw [h]; rfl
  rw [Array.getElem?_map, h0] at e0
  rw [Array.getElem?_map, h1] at e1
  simp only [Option.map_some, Option.some.injEq, Prod.mk.injEq] at e0 e1
  exact ⟨_, _, h0, h1, e0.1, e0.2, e1.1, e1.2⟩
section
variable {H : Type} {enc : TypeId × Value → H} {w : World} {base : Nat} {spare : Nat → Bool} {held : Bool}
theorem addr_of {cs : List Value} (h : Reads enc Try.prog w base spare held 24 cs) : ∃ a : Nat, cs = [.int .u32 a] ∧ a < 4294967296 := by
  obtain ⟨n, e, hw⟩ := reads_int Try.underlying24 h
  have hb := bounds_u32 hw
  exact ⟨n.toNat, by rw [e, Int.toNat_of_nonneg hb.1], by omega⟩
set_option maxRecDepth 100000 in
theorem pf_of {cs : List Value} (h : Reads enc Try.prog w base spare held 40 cs) : ∃ p : Pf, cs = p.cells ∧ p.a < 4294967296 ∧ (Lit.int .i64 p.n).wf = true := by
  obtain ⟨fs, hu, hm⟩ := uPrefix
  obtain ⟨f0, f1, g0, g1, t0, o0, t1, o1⟩ := two_fields hm
  obtain ⟨hl, hf⟩ := reads_struct hu h
  have hC : Try.prog.cellsOf 40 = 2 := by kernel_rfl
  have c0 : Try.prog.cellsOf 24 = 1 := by kernel_rfl
  have c1 : Try.prog.cellsOf 3 = 1 := by kernel_rfl
  have h0 := hf 0 f0 g0
  have h1 := hf 1 f1 g1
  rw [t0, o0, c0] at h0
  rw [t1, o1, c1] at h1
  rw [hC] at hl
  match cs, hl with
  | [x, y], _ =>
    obtain ⟨a, e0, ha⟩ := addr_of h0
    obtain ⟨n, e1, hn⟩ := reads_int Try.underlying3 h1
    simp only [List.drop_zero, List.take_succ_cons, List.take_zero, List.drop_succ_cons, List.cons.injEq, and_true] at e0 e1
    subst e0; subst e1
    exact ⟨⟨a, n⟩, rfl, ha, hn⟩
set_option maxRecDepth 100000 in
theorem en_of (cs : List Value) (h : Reads enc Try.prog w base spare held 42 cs) (hl : cs.length = 3) : ∃ e : En, cs = e.cells ∧ (e.p.a < 4294967296 ∧ (Lit.int .i64 e.p.n).wf = true ∧ (Lit.int .i64 e.v).wf = true) := by
  obtain ⟨fs, hu, hm⟩ := uEntry
  obtain ⟨f0, f1, g0, g1, t0, o0, t1, o1⟩ := two_fields hm
  obtain ⟨_, hf⟩ := reads_struct hu h
  have c0 : Try.prog.cellsOf 40 = 2 := by kernel_rfl
  have c1 : Try.prog.cellsOf 3 = 1 := by kernel_rfl
  have h0 := hf 0 f0 g0
  have h1 := hf 1 f1 g1
  rw [t0, o0, c0] at h0
  rw [t1, o1, c1] at h1
  match cs, hl with
  | [x, y, z], _ =>
    obtain ⟨p, e0, ha, hn⟩ := pf_of h0
    obtain ⟨v, e1, hv⟩ := reads_int Try.underlying3 h1
    simp only [List.drop_zero, List.take_succ_cons, List.take_zero, List.drop_succ_cons, List.cons.injEq, and_true, Pf.cells] at e0 e1
    obtain ⟨rfl, rfl⟩ := e0
    subst e1
    exact ⟨⟨p, v⟩, rfl, ha, hn, hv⟩
set_option maxRecDepth 100000 in
theorem open_ens {v : Value} {d : DataW H} {p : List MemPlace} {b0 : Nat} (hv : Value.okWide Try.prog w .any b0 22 v) (h : DataW.Trod enc Try.prog w base spare held 22 v d p) :
    ∃ ao L c, v = .slice ao L.length c ∧ Ens w ao L ∧ ∀ e ∈ L, e.p.a < 4294967296 := by
  obtain ⟨ao, L, c, h1, h2, _, _, h3⟩ := open_list (φ := fun e : En => e.p.a < 4294967296 ∧ (Lit.int .i64 e.p.n).wf = true ∧ (Lit.int .i64 e.v).wf = true) En.cells Try.underlying22 (by kernel_rfl) hv h en_of
  exact ⟨ao, L, c, h1, h2, fun e he => (h3 e he).1⟩
set_option maxRecDepth 100000 in
theorem open_addr {v : Value} {d : DataW H} {p : List MemPlace} {b0 : Nat} (hv : Value.okWide Try.prog w .any b0 24 v) (h : DataW.Trod enc Try.prog w base spare held 24 v d p) : ∃ a : Nat, v = .int .u32 a ∧ a < 4294967296 := by
  obtain ⟨n, rfl, _, _, hw⟩ := open_int Try.underlying24 hv h
  have hb := bounds_u32 hw
  exact ⟨n.toNat, by rw [Int.toNat_of_nonneg hb.1], by omega⟩
set_option maxRecDepth 100000 in
theorem open_pf {v : Value} {d : DataW H} {p : List MemPlace} {b0 : Nat} (hv : Value.okWide Try.prog w .any b0 40 v) (h : DataW.Trod enc Try.prog w base spare held 40 v d p) : ∃ p : Pf, v = p.val ∧ p.a < 4294967296 := by
  obtain ⟨cs, rfl, _⟩ := okWide_struct Try.underlying40 hv
  obtain ⟨q, h1, h2, _⟩ := pf_of (reads_of h)
  refine ⟨q, ?_, h2⟩
  have : cs.toList = q.cells := h1
  have h4 : cs = q.cells.toArray := by rw [← this, Array.toArray_toList]
  rw [h4]; rfl
end
end Go.Proofs.Ytjpnaofoeeegeaa

/-
  Lists of entries that are arguments.
  No conditions.
-/
namespace Go.Proofs.Ytjpnaofoeeegeaa
open Go.ChangeShapes Go.WideShapes Go.ChangeAt Go.RowKit Go.Joins Go.Deep

/-- A list of entries in memory; nil has no room. -/
structure SlS (w : World) (ao : Option Addr) (c : Nat) (l : List En) : Prop where
  ens : Ens w ao l
  nil : ao = none → c = 0
section
variable {H : Type} {enc : TypeId × Value → H} {w : World} {base : Nat} {spare : Nat → Bool} {held : Bool}
set_option maxRecDepth 100000 in
theorem open_sls {v : Value} {d : DataW H} {p : List MemPlace} {b0 : Nat} (hv : Value.okWide Try.prog w .any b0 22 v) (h : DataW.Trod enc Try.prog w base spare held 22 v d p) :
    ∃ ao L c, v = .slice ao L.length c ∧ SlS w ao c L ∧ ∀ e ∈ L, e.p.a < 4294967296 := by
  obtain ⟨ao, L, c, rfl, h2, h3, _, h4⟩ := open_list (φ := fun e : En => e.p.a < 4294967296 ∧ (Lit.int .i64 e.p.n).wf = true ∧ (Lit.int .i64 e.v).wf = true) En.cells Try.underlying22 (by kernel_rfl) hv h en_of
  refine ⟨ao, L, c, rfl, ⟨h2, fun e => ?_⟩, fun e he => (h4 e he).1⟩
  subst e
  obtain ⟨n, x, hx⟩ := reads_of h
  rcases open_slice Try.underlying22 hx with ⟨h5, _⟩ | ⟨a, len, cap, m, n, D, Pl, h5, _⟩
  · have h6 : (Value.slice none L.length c).cells.toList = [.slice none L.length c] := rfl
    rw [h6] at h5
    simp only [List.cons.injEq, Value.slice.injEq, and_true] at h5
    exact h5.2.2
  · have h6 : (Value.slice none L.length c).cells.toList = [.slice none L.length c] := rfl
    rw [h6] at h5
    simp at h5
end
end Go.Proofs.Ytjpnaofoeeegeaa

/-
  Stride tables (layer 8): the statements StrideBuilds, StrideLookups, StrideCanonical, walked.
  Conditions: addresses are below 2^32.
-/
namespace Go.Proofs.Ytjpnaofoeeegeaa
open Go.RowKit

set_option maxHeartbeats 1000000 in
theorem lawBuilds_v (ao : Option Addr) (T : List En) (c : Nat) (w : World) (hS : SlS w ao c T) (ha : ∀ e ∈ T, e.p.a < 4294967296) : Calls Try.prog 4 #[.slice ao T.length c] w (Ret (.bool true) w) := by
  have hT := hS.ens
  refine V_enter (vs := [_]) Try.func4 rfl Try.ntmps4 (Nat.le_of_ble_eq_true rfl) ?_
  repeat (first | refine Vx ?_ | (apply Ops_q; (case hon => exact Va); (case hd => rfl); (case hq => exact YlA)) | refine Vr ?_ | refine Vt ?_ | refine Vf ?_ | refine Vm ?_ | refine Ve ?_ | refine Vo ?_ | refine Vz ?_ | refine Vn ?_)
  refine V_cond rfl (fun h1 => ?_) (fun h1 => ?_)
  · repeat (first | refine Vx ?_ | (apply Ops_q; (case hon => exact Va); (case hd => rfl); (case hq => exact YlA)) | refine Vr ?_ | refine Vt ?_ | refine Vf ?_ | refine Vm ?_ | refine Ve ?_ | refine Vo ?_ | refine Vz ?_ | refine Vn ?_)
    (apply Ops_q; (case hon => (exact Va)); (case hd => rfl); (case hq => exact Yl_call rfl (fun w_ e_ => awake8_v w_)))
    repeat (first | refine Vx ?_ | (apply Ops_q; (case hon => exact Va); (case hd => rfl); (case hq => exact YlA)) | refine Vr ?_ | refine Vt ?_ | refine Vf ?_ | refine Vm ?_ | refine Ve ?_ | refine Vo ?_ | refine Vz ?_ | refine Vn ?_)
    refine ret1 (by first | exact .inl rfl | exact .inr rfl) rfl rfl ?_
    exact Ret_mk rfl (Ext.refl _)
  have hn : T.length ≤ 1000000 := by have := of_decide_eq_false h1; omega
  clear h1
  repeat (first | refine Vx ?_ | (apply Ops_q; (case hon => exact Va); (case hd => rfl); (case hq => exact YlA)) | refine Vr ?_ | refine Vt ?_ | refine Vf ?_ | refine Vm ?_ | refine Ve ?_ | refine Vo ?_ | refine Vz ?_ | refine Vn ?_)
  (refine Ops_callR (by exact Va) rfl rfl (fun w_ e_ => build_v ao T c w_ (hT.ext e_) ha hn) ?_; intro v2 w2 w0_ e0_ e1_ r_v2; have e_w2 := e0_.trans e1_; have b_v2 := e0_.size; clear e0_ e1_)
  obtain ⟨aN, aL, N, L, cN, cL, rfl, hB, hN, hL⟩ := r_v2
  have x2 := e_w2
  clear b_v2 e_w2
  repeat (first | refine Vx ?_ | (apply Ops_q; (case hon => exact Va); (case hd => rfl); (case hq => exact YlA)) | refine Vr ?_ | refine Vt ?_ | refine Vf ?_ | refine Vm ?_ | refine Ve ?_ | refine Vo ?_ | refine Vz ?_ | refine Vn ?_)
  (refine Ops_alloc (by exact Va) rfl ?_; intro w3 b3 n_b3; have k_b3 := n_b3.blk)
  repeat (first | refine Vx ?_ | (apply Ops_q; (case hon => exact Va); (case hd => rfl); (case hq => exact YlA)) | refine Vr ?_ | refine Vt ?_ | refine Vf ?_ | refine Vm ?_ | refine Ve ?_ | refine Vo ?_ | refine Vz ?_ | refine Vn ?_)
  (refine Ops_store (by exact Va) rfl rfl (by assumption) (by first | rfl | exact OneAll.h) ?_; intro w4 u_w4; have k_b3 := u_w4.blk)
  have y4 : Ext w2 w4 := u_w4.below n_b3.ext n_b3.ge
  have x4 := x2.trans y4
  replace hN := hN.ext y4
  replace hL := hL.ext y4
  clear u_w4 n_b3 y4 x2
  repeat (first | refine Vx ?_ | (apply Ops_q; (case hon => exact Va); (case hd => rfl); (case hq => exact YlA)) | refine Vr ?_ | refine Vt ?_ | refine Vf ?_ | refine Vm ?_ | refine Ve ?_ | refine Vo ?_ | refine Vz ?_ | refine Vn ?_)
  (refine Ops_callR (by exact Va) rfl rfl (fun w_ e_ => buildR_v ao T c w_ (hT.ext (x4.trans e_)) ha hn) ?_; intro v5 w5 w0_ e0_ e1_ r_v5; have e_w5 := e0_.trans e1_; have b_v5 := e0_.size; clear e0_ e1_)
  obtain ⟨aM, aK, M, K, cM, cK, rfl, hB', hM, hK⟩ := r_v5
  obtain ⟨rfl, rfl⟩ := hB.unique hB'
  obtain ⟨q1, q2⟩ := hB.size
  replace hN := hN.ext e_w5
  replace hL := hL.ext e_w5
  replace k_b3 := k_b3.ext e_w5
  replace x4 := x4.trans e_w5
  clear b_v5 e_w5
  repeat (first | refine Vx ?_ | (apply Ops_q; (case hon => exact Va); (case hd => rfl); (case hq => exact YlA)) | refine Vr ?_ | refine Vt ?_ | refine Vf ?_ | refine Vm ?_ | refine Ve ?_ | refine Vo ?_ | refine Vz ?_ | refine Vn ?_)
  (refine Ops_alloc (by exact Va) rfl ?_; intro w6 b6 n_b6; have k_b6 := n_b6.blk)
  repeat (first | refine Vx ?_ | (apply Ops_q; (case hon => exact Va); (case hd => rfl); (case hq => exact YlA)) | refine Vr ?_ | refine Vt ?_ | refine Vf ?_ | refine Vm ?_ | refine Ve ?_ | refine Vo ?_ | refine Vz ?_ | refine Vn ?_)
  (refine Ops_store (by exact Va) rfl rfl (by assumption) (by first | rfl | exact OneAll.h) ?_; intro w7 u_w7; have k_b6 := u_w7.blk)
  have y7 : Ext w5 w7 := u_w7.below n_b6.ext n_b6.ge
  have x7 := x4.trans y7
  replace hN := hN.ext y7
  replace hL := hL.ext y7
  replace hM := hM.ext y7
  replace hK := hK.ext y7
  replace k_b3 := k_b3.ext y7
  clear u_w7 n_b6 y7 x4
  have hde : decide (chk T = chk T) = true := decide_eq_true rfl
  repeat (first | refine Vx ?_ | (apply Ops_q; (case hon => exact Va); (case hd => rfl); (case hq => exact YlA)) | refine Vr ?_ | refine Vt ?_ | refine Vf ?_ | refine Vm ?_ | refine Ve ?_ | refine Vo ?_ | refine Vz ?_ | refine Vn ?_)
  (apply Ops_q; (case hon => (exact Va)); (case hd => rfl); (case hq => exact Yl_call rfl (fun w_ e_ => awake8_v w_)))
  repeat (first | refine Vx ?_ | (apply Ops_q; (case hon => exact Va); (case hd => rfl); (case hq => exact YlA)) | refine Vr ?_ | refine Vt ?_ | refine Vf ?_ | refine Vm ?_ | refine Ve ?_ | refine Vo ?_ | refine Vz ?_ | refine Vn ?_)
  (apply Ops_q; (case hon => (exact Va)); (case hd => rfl); (case hq => exact Yl_call rfl (fun w_ e_ => sameL_v aN aM aL aK N N L L cN cM cL cK w_ (hN.ext e_) (hM.ext e_) (hL.ext e_) (hK.ext e_) (by omega) (by omega))))
  rw [decide_eq_true (show N = N ∧ L = L from ⟨rfl, rfl⟩)]
  repeat (first | refine Vx ?_ | (apply Ops_q; (case hon => exact Va); (case hd => rfl); (case hq => exact YlA)) | refine Vr ?_ | refine Vt ?_ | refine Vf ?_ | refine Vm ?_ | refine Ve ?_ | refine Vo ?_ | refine Vz ?_ | refine Vn ?_)
  rw [hde]
  refine ret1 (by first | exact .inl rfl | exact .inr rfl) rfl rfl ?_
  exact Ret_mk rfl x7
theorem chk_len {T : List En} (h : chk T = 0) : T.length ≤ 1000000 := by have := (chk_iff.1 h).1; omega
set_option maxHeartbeats 1000000 in
theorem lawLookups_v (ao : Option Addr) (T : List En) (c a : Nat) (w : World) (hS : SlS w ao c T) (ha : ∀ e ∈ T, e.p.a < 4294967296) (haa : a < 4294967296) : Calls Try.prog 5 #[.slice ao T.length c, .int .u32 a] w (Ret (.bool true) w) := by
  have hT := hS.ens
  refine V_enter (vs := [_, _]) Try.func5 rfl Try.ntmps5 (Nat.le_of_ble_eq_true rfl) ?_
  repeat (first | refine Vx ?_ | (apply Ops_q; (case hon => exact Va); (case hd => rfl); (case hq => exact YlA)) | refine Vr ?_ | refine Vt ?_ | refine Vf ?_ | refine Vm ?_ | refine Ve ?_ | refine Vo ?_ | refine Vz ?_ | refine Vn ?_)
  by_cases t1 : 200 < T.length
  · have d1 : decide ((200 : Int) < (T.length : Int)) = true := decide_eq_true (by omega)
    refine Ops_know rfl rfl d1 ?_
    repeat (first | refine Vx ?_ | (apply Ops_q; (case hon => exact Va); (case hd => rfl); (case hq => exact YlA)) | refine Vr ?_ | refine Vt ?_ | refine Vf ?_ | refine Vm ?_ | refine Ve ?_ | refine Vo ?_ | refine Vz ?_ | refine Vn ?_)
    (apply Ops_q; (case hon => (exact Va)); (case hd => rfl); (case hq => exact Yl_call rfl (fun w_ e_ => awake8_v w_)))
    repeat (first | refine Vx ?_ | (apply Ops_q; (case hon => exact Va); (case hd => rfl); (case hq => exact YlA)) | refine Vr ?_ | refine Vt ?_ | refine Vf ?_ | refine Vm ?_ | refine Ve ?_ | refine Vo ?_ | refine Vz ?_ | refine Vn ?_)
    refine ret1 (by first | exact .inl rfl | exact .inr rfl) rfl rfl ?_
    exact Ret_mk rfl (Ext.refl _)
  have d1 : decide ((200 : Int) < (T.length : Int)) = false := decide_eq_false (by omega)
  have hn : T.length ≤ 1000000 := by omega
  refine Ops_know rfl rfl d1 ?_
  repeat (first | refine Vx ?_ | (apply Ops_q; (case hon => exact Va); (case hd => rfl); (case hq => exact YlA)) | refine Vr ?_ | refine Vt ?_ | refine Vf ?_ | refine Vm ?_ | refine Ve ?_ | refine Vo ?_ | refine Vz ?_ | refine Vn ?_)
  (apply Ops_q; (case hon => (exact Va)); (case hd => rfl); (case hq => exact Yl_call rfl (fun w_ e_ => checkR_v ao T c w_ (hT.ext e_) ha hn)))
  repeat (first | refine Vx ?_ | (apply Ops_q; (case hon => exact Va); (case hd => rfl); (case hq => exact YlA)) | refine Vr ?_ | refine Vt ?_ | refine Vf ?_ | refine Vm ?_ | refine Ve ?_ | refine Vo ?_ | refine Vz ?_ | refine Vn ?_)
  by_cases h0 : chk T ≠ 0
  · have d0 : (!decide (chk T = 0)) = true := by rw [decide_eq_false h0]; rfl
    refine V_yes rfl d0 ?_
    repeat (first | refine Vx ?_ | (apply Ops_q; (case hon => exact Va); (case hd => rfl); (case hq => exact YlA)) | refine Vr ?_ | refine Vt ?_ | refine Vf ?_ | refine Vm ?_ | refine Ve ?_ | refine Vo ?_ | refine Vz ?_ | refine Vn ?_)
    (apply Ops_q; (case hon => (exact Va)); (case hd => rfl); (case hq => exact Yl_call rfl (fun w_ e_ => awake8_v w_)))
    repeat (first | refine Vx ?_ | (apply Ops_q; (case hon => exact Va); (case hd => rfl); (case hq => exact YlA)) | refine Vr ?_ | refine Vt ?_ | refine Vf ?_ | refine Vm ?_ | refine Ve ?_ | refine Vo ?_ | refine Vz ?_ | refine Vn ?_)
    refine ret1 (by first | exact .inl rfl | exact .inr rfl) rfl rfl ?_
    exact Ret_mk rfl (Ext.refl _)
  replace h0 : chk T = 0 := Decidable.not_not.1 h0
  have d0 : (!decide (chk T = 0)) = false := by rw [decide_eq_true h0]; rfl
  have hlk : lkT T a = lk T a := by rw [lkT, if_pos h0]
  clear t1 d1
  refine V_no rfl d0 ?_
  repeat (first | refine Vx ?_ | (apply Ops_q; (case hon => exact Va); (case hd => rfl); (case hq => exact YlA)) | refine Vr ?_ | refine Vt ?_ | refine Vf ?_ | refine Vm ?_ | refine Ve ?_ | refine Vo ?_ | refine Vz ?_ | refine Vn ?_)
  (refine Ops_callR (by exact Va) rfl rfl (fun w_ e_ => build_v ao T c w_ (hT.ext e_) ha hn) ?_; intro v2 w2 w0_ e0_ e1_ r_v2; have e_w2 := e0_.trans e1_; have b_v2 := e0_.size; clear e0_ e1_)
  obtain ⟨aN, aL, N, L, cN, cL, rfl, hB, hN, hL⟩ := r_v2
  have hcf : IsCf (lk T) N L := by
    rcases hB with ⟨_, h⟩ | ⟨h, _⟩
    · exact h
    · exact absurd h0 h
  obtain ⟨q1, q2⟩ := hB.size
  rw [h0]
  have x2 := e_w2
  clear b_v2 e_w2 hB
  repeat (first | refine Vx ?_ | (apply Ops_q; (case hon => exact Va); (case hd => rfl); (case hq => exact YlA)) | refine Vr ?_ | refine Vt ?_ | refine Vf ?_ | refine Vm ?_ | refine Ve ?_ | refine Vo ?_ | refine Vz ?_ | refine Vn ?_)
  (refine Ops_alloc (by exact Va) rfl ?_; intro w3 b3 n_b3; have k_b3 := n_b3.blk)
  repeat (first | refine Vx ?_ | (apply Ops_q; (case hon => exact Va); (case hd => rfl); (case hq => exact YlA)) | refine Vr ?_ | refine Vt ?_ | refine Vf ?_ | refine Vm ?_ | refine Ve ?_ | refine Vo ?_ | refine Vz ?_ | refine Vn ?_)
  (refine Ops_store (by exact Va) rfl rfl (by assumption) (by first | rfl | exact OneAll.h) ?_; intro w4 u_w4; have k_b3 := u_w4.blk)
  have y4 : Ext w2 w4 := u_w4.below n_b3.ext n_b3.ge
  have x4 := x2.trans y4
  replace hN := hN.ext y4
  replace hL := hL.ext y4
  clear u_w4 n_b3 y4 x2
  repeat (first | refine Vx ?_ | (apply Ops_q; (case hon => exact Va); (case hd => rfl); (case hq => exact YlA)) | refine Vr ?_ | refine Vt ?_ | refine Vf ?_ | refine Vm ?_ | refine Ve ?_ | refine Vo ?_ | refine Vz ?_ | refine Vn ?_)
  refine Ops_callR (R := fun _ r _ => LkC N L a r) (by exact Va) rfl rfl (fun w_ e_ => lookupS_v aN aL N L cN cL a w_ (hN.ext e_) (hL.ext e_) hcf.w (by omega) (by omega) haa) ?_
  intro v9 w9 w0_ e0 e1 hR
  have x9 := x4.trans (e0.trans e1)
  have hTx := hT.ext x9
  obtain ⟨n, hn1, hn6, rfl⟩ : ∃ n : Nat, 1 ≤ n ∧ n ≤ 6 ∧ v9 = .tuple #[.int .i64 (lk T a), .int .i64 n] := by
    rcases hR with ⟨g, hg, hc, rfl⟩ | ⟨hno, _⟩
    · exact ⟨_, dep_pos g a 5 (0, 0), dep_le g a 6 (0, 0), by rw [isCf_inj hc hcf haa]⟩
    · exact absurd hcf (hno _ (geM_lk h0))
  have e1' : decide (lk T a = lk T a) = true := decide_eq_true rfl
  have e2' : decide ((1 : Int) ≤ (n : Int)) = true := decide_eq_true (by omega)
  have e3' : decide ((n : Int) ≤ 6) = true := decide_eq_true (by omega)
  clear hR e0 e1 d0 hn1 hn6
  repeat (first | refine Vx ?_ | (apply Ops_q; (case hon => exact Va); (case hd => rfl); (case hq => exact YlA)) | refine Vr ?_ | refine Vt ?_ | refine Vf ?_ | refine Vm ?_ | refine Ve ?_ | refine Vo ?_ | refine Vz ?_ | refine Vn ?_)
  (apply Ops_q; (case hon => (exact Va)); (case hd => rfl); (case hq => exact Yl_call rfl (fun w_ e_ => awake8_v w_)))
  repeat (first | refine Vx ?_ | (apply Ops_q; (case hon => exact Va); (case hd => rfl); (case hq => exact YlA)) | refine Vr ?_ | refine Vt ?_ | refine Vf ?_ | refine Vm ?_ | refine Ve ?_ | refine Vo ?_ | refine Vz ?_ | refine Vn ?_)
  (apply Ops_q; (case hon => (exact Va)); (case hd => rfl); (case hq => exact Yl_call rfl (fun w_ e_ => lookupR_v ao T c a w_ (hTx.ext e_) ha hn haa)))
  rw [hlk]
  repeat (first | refine Vx ?_ | (apply Ops_q; (case hon => exact Va); (case hd => rfl); (case hq => exact YlA)) | refine Vr ?_ | refine Vt ?_ | refine Vf ?_ | refine Vm ?_ | refine Ve ?_ | refine Vo ?_ | refine Vz ?_ | refine Vn ?_)
  rw [e1']
  repeat (first | refine Vx ?_ | (apply Ops_q; (case hon => exact Va); (case hd => rfl); (case hq => exact YlA)) | refine Vr ?_ | refine Vt ?_ | refine Vf ?_ | refine Vm ?_ | refine Ve ?_ | refine Vo ?_ | refine Vz ?_ | refine Vn ?_)
  rw [e2']
  repeat (first | refine Vx ?_ | (apply Ops_q; (case hon => exact Va); (case hd => rfl); (case hq => exact YlA)) | refine Vr ?_ | refine Vt ?_ | refine Vf ?_ | refine Vm ?_ | refine Ve ?_ | refine Vo ?_ | refine Vz ?_ | refine Vn ?_)
  rw [e3']
  refine ret1 (by first | exact .inl rfl | exact .inr rfl) rfl rfl ?_
  exact Ret_mk rfl x9
set_option maxHeartbeats 1000000 in
theorem lawCanonical_v (ao : Option Addr) (A : List En) (c : Nat) (bo : Option Addr) (B : List En) (d : Nat) (w : World) (hS : SlS w ao c A) (ha : ∀ e ∈ A, e.p.a < 4294967296) (hS' : SlS w bo d B) (hb : ∀ e ∈ B, e.p.a < 4294967296) :
    Calls Try.prog 6 #[.slice ao A.length c, .slice bo B.length d] w (Ret (.bool true) w) := by
  have hT := hS.ens
  have hT' := hS'.ens
  have hz := hS.nil
  have hz' := hS'.nil
  refine V_enter (vs := [_, _]) Try.func6 rfl Try.ntmps6 (Nat.le_of_ble_eq_true rfl) ?_
  repeat (first | refine Vx ?_ | (apply Ops_q; (case hon => exact Va); (case hd => rfl); (case hq => exact YlA)) | refine Vr ?_ | refine Vt ?_ | refine Vf ?_ | refine Vm ?_ | refine Ve ?_ | refine Vo ?_ | refine Vz ?_ | refine Vn ?_)
  by_cases t1 : 60 < A.length
  · have d1 : decide ((60 : Int) < (A.length : Int)) = true := decide_eq_true (by omega)
    refine Ops_know rfl rfl d1 ?_
    repeat (first | refine Vx ?_ | (apply Ops_q; (case hon => exact Va); (case hd => rfl); (case hq => exact YlA)) | refine Vr ?_ | refine Vt ?_ | refine Vf ?_ | refine Vm ?_ | refine Ve ?_ | refine Vo ?_ | refine Vz ?_ | refine Vn ?_)
    (apply Ops_q; (case hon => (exact Va)); (case hd => rfl); (case hq => exact Yl_call rfl (fun w_ e_ => awake8_v w_)))
    repeat (first | refine Vx ?_ | (apply Ops_q; (case hon => exact Va); (case hd => rfl); (case hq => exact YlA)) | refine Vr ?_ | refine Vt ?_ | refine Vf ?_ | refine Vm ?_ | refine Ve ?_ | refine Vo ?_ | refine Vz ?_ | refine Vn ?_)
    refine ret1 (by first | exact .inl rfl | exact .inr rfl) rfl rfl ?_
    exact Ret_mk rfl (Ext.refl _)
  have d1 : decide ((60 : Int) < (A.length : Int)) = false := decide_eq_false (by omega)
  refine Ops_know rfl rfl d1 ?_
  repeat (first | refine Vx ?_ | (apply Ops_q; (case hon => exact Va); (case hd => rfl); (case hq => exact YlA)) | refine Vr ?_ | refine Vt ?_ | refine Vf ?_ | refine Vm ?_ | refine Ve ?_ | refine Vo ?_ | refine Vz ?_ | refine Vn ?_)
  by_cases t2 : 60 < B.length
  · have d2 : decide ((60 : Int) < (B.length : Int)) = true := decide_eq_true (by omega)
    refine Ops_know rfl rfl d2 ?_
    repeat (first | refine Vx ?_ | (apply Ops_q; (case hon => exact Va); (case hd => rfl); (case hq => exact YlA)) | refine Vr ?_ | refine Vt ?_ | refine Vf ?_ | refine Vm ?_ | refine Ve ?_ | refine Vo ?_ | refine Vz ?_ | refine Vn ?_)
    (apply Ops_q; (case hon => (exact Va)); (case hd => rfl); (case hq => exact Yl_call rfl (fun w_ e_ => awake8_v w_)))
    repeat (first | refine Vx ?_ | (apply Ops_q; (case hon => exact Va); (case hd => rfl); (case hq => exact YlA)) | refine Vr ?_ | refine Vt ?_ | refine Vf ?_ | refine Vm ?_ | refine Ve ?_ | refine Vo ?_ | refine Vz ?_ | refine Vn ?_)
    refine ret1 (by first | exact .inl rfl | exact .inr rfl) rfl rfl ?_
    exact Ret_mk rfl (Ext.refl _)
  have d2 : decide ((60 : Int) < (B.length : Int)) = false := decide_eq_false (by omega)
  refine Ops_know rfl rfl d2 ?_
  have hn : A.length ≤ 1000000 := by omega
  have hn' : B.length ≤ 1000000 := by omega
  clear t1 t2 d1 d2
  repeat (first | refine Vx ?_ | (apply Ops_q; (case hon => exact Va); (case hd => rfl); (case hq => exact YlA)) | refine Vr ?_ | refine Vt ?_ | refine Vf ?_ | refine Vm ?_ | refine Ve ?_ | refine Vo ?_ | refine Vz ?_ | refine Vn ?_)
  (apply Ops_q; (case hon => (exact Va)); (case hd => rfl); (case hq => exact Yl_call rfl (fun w_ e_ => checkR_v ao A c w_ (hT.ext e_) ha hn)))
  repeat (first | refine Vx ?_ | (apply Ops_q; (case hon => exact Va); (case hd => rfl); (case hq => exact YlA)) | refine Vr ?_ | refine Vt ?_ | refine Vf ?_ | refine Vm ?_ | refine Ve ?_ | refine Vo ?_ | refine Vz ?_ | refine Vn ?_)
  by_cases h0 : chk A ≠ 0
  · have d0 : (!decide (chk A = 0)) = true := by rw [decide_eq_false h0]; rfl
    refine Ops_know rfl rfl d0 ?_
    repeat (first | refine Vx ?_ | (apply Ops_q; (case hon => exact Va); (case hd => rfl); (case hq => exact YlA)) | refine Vr ?_ | refine Vt ?_ | refine Vf ?_ | refine Vm ?_ | refine Ve ?_ | refine Vo ?_ | refine Vz ?_ | refine Vn ?_)
    (apply Ops_q; (case hon => (exact Va)); (case hd => rfl); (case hq => exact Yl_call rfl (fun w_ e_ => awake8_v w_)))
    repeat (first | refine Vx ?_ | (apply Ops_q; (case hon => exact Va); (case hd => rfl); (case hq => exact YlA)) | refine Vr ?_ | refine Vt ?_ | refine Vf ?_ | refine Vm ?_ | refine Ve ?_ | refine Vo ?_ | refine Vz ?_ | refine Vn ?_)
    refine ret1 (by first | exact .inl rfl | exact .inr rfl) rfl rfl ?_
    exact Ret_mk rfl (Ext.refl _)
  replace h0 : chk A = 0 := Decidable.not_not.1 h0
  have d0 : (!decide (chk A = 0)) = false := by rw [decide_eq_true h0]; rfl
  refine Ops_know rfl rfl d0 ?_
  repeat (first | refine Vx ?_ | (apply Ops_q; (case hon => exact Va); (case hd => rfl); (case hq => exact YlA)) | refine Vr ?_ | refine Vt ?_ | refine Vf ?_ | refine Vm ?_ | refine Ve ?_ | refine Vo ?_ | refine Vz ?_ | refine Vn ?_)
  (apply Ops_q; (case hon => (exact Va)); (case hd => rfl); (case hq => exact Yl_call rfl (fun w_ e_ => checkR_v bo B d w_ (hT'.ext e_) hb hn')))
  repeat (first | refine Vx ?_ | (apply Ops_q; (case hon => exact Va); (case hd => rfl); (case hq => exact YlA)) | refine Vr ?_ | refine Vt ?_ | refine Vf ?_ | refine Vm ?_ | refine Ve ?_ | refine Vo ?_ | refine Vz ?_ | refine Vn ?_)
  by_cases h0' : chk B ≠ 0
  · have d0 : (!decide (chk B = 0)) = true := by rw [decide_eq_false h0']; rfl
    refine V_yes rfl d0 ?_
    repeat (first | refine Vx ?_ | (apply Ops_q; (case hon => exact Va); (case hd => rfl); (case hq => exact YlA)) | refine Vr ?_ | refine Vt ?_ | refine Vf ?_ | refine Vm ?_ | refine Ve ?_ | refine Vo ?_ | refine Vz ?_ | refine Vn ?_)
    (apply Ops_q; (case hon => (exact Va)); (case hd => rfl); (case hq => exact Yl_call rfl (fun w_ e_ => awake8_v w_)))
    repeat (first | refine Vx ?_ | (apply Ops_q; (case hon => exact Va); (case hd => rfl); (case hq => exact YlA)) | refine Vr ?_ | refine Vt ?_ | refine Vf ?_ | refine Vm ?_ | refine Ve ?_ | refine Vo ?_ | refine Vz ?_ | refine Vn ?_)
    refine ret1 (by first | exact .inl rfl | exact .inr rfl) rfl rfl ?_
    exact Ret_mk rfl (Ext.refl _)
  replace h0' : chk B = 0 := Decidable.not_not.1 h0'
  have d0' : (!decide (chk B = 0)) = false := by rw [decide_eq_true h0']; rfl
  refine V_no rfl d0' ?_
  clear d0 d0'
  repeat (first | refine Vx ?_ | (apply Ops_q; (case hon => exact Va); (case hd => rfl); (case hq => exact YlA)) | refine Vr ?_ | refine Vt ?_ | refine Vf ?_ | refine Vm ?_ | refine Ve ?_ | refine Vo ?_ | refine Vz ?_ | refine Vn ?_)
  (refine Ops_callR (by exact Va) rfl rfl (fun w_ e_ => build_v ao A c w_ (hT.ext e_) ha hn) ?_; intro v2 w2 w0_ e0_ e1_ r_v2; have e_w2 := e0_.trans e1_; have b_v2 := e0_.size; clear e0_ e1_)
  obtain ⟨aN, aL, N, L, cN, cL, rfl, hB, hN, hL⟩ := r_v2
  obtain ⟨q1, q2⟩ := hB.size
  have x2 := e_w2
  clear b_v2 e_w2
  repeat (first | refine Vx ?_ | (apply Ops_q; (case hon => exact Va); (case hd => rfl); (case hq => exact YlA)) | refine Vr ?_ | refine Vt ?_ | refine Vf ?_ | refine Vm ?_ | refine Ve ?_ | refine Vo ?_ | refine Vz ?_ | refine Vn ?_)
  (refine Ops_alloc (by exact Va) rfl ?_; intro w3 b3 n_b3; have k_b3 := n_b3.blk)
  repeat (first | refine Vx ?_ | (apply Ops_q; (case hon => exact Va); (case hd => rfl); (case hq => exact YlA)) | refine Vr ?_ | refine Vt ?_ | refine Vf ?_ | refine Vm ?_ | refine Ve ?_ | refine Vo ?_ | refine Vz ?_ | refine Vn ?_)
  (refine Ops_store (by exact Va) rfl rfl (by assumption) (by first | rfl | exact OneAll.h) ?_; intro w4 u_w4; have k_b3 := u_w4.blk)
  have y4 : Ext w2 w4 := u_w4.below n_b3.ext n_b3.ge
  have x4 := x2.trans y4
  replace hN := hN.ext y4
  replace hL := hL.ext y4
  clear u_w4 n_b3 y4 x2
  repeat (first | refine Vx ?_ | (apply Ops_q; (case hon => exact Va); (case hd => rfl); (case hq => exact YlA)) | refine Vr ?_ | refine Vt ?_ | refine Vf ?_ | refine Vm ?_ | refine Ve ?_ | refine Vo ?_ | refine Vz ?_ | refine Vn ?_)
  (refine Ops_callR (by exact Va) rfl rfl (fun w_ e_ => build_v bo B d w_ (hT'.ext (x4.trans e_)) hb hn') ?_; intro v5 w5 w0_ e0_ e1_ r_v5; have e_w5 := e0_.trans e1_; have b_v5 := e0_.size; clear e0_ e1_)
  obtain ⟨aM, aK, M, K, cM, cK, rfl, hB', hM, hK⟩ := r_v5
  replace hN := hN.ext e_w5
  replace hL := hL.ext e_w5
  replace k_b3 := k_b3.ext e_w5
  replace x4 := x4.trans e_w5
  clear b_v5 e_w5
  have hcA : IsCf (lk A) N L := by
    rcases hB with ⟨_, h⟩ | ⟨h, _⟩
    · exact h
    · exact absurd h0 h
  have hcB : IsCf (lk B) M K := by
    rcases hB' with ⟨_, h⟩ | ⟨h, _⟩
    · exact h
    · exact absurd h0' h
  have hsam : samT A B = decide (N = M ∧ L = K) := by
    have hTA := (chk_iff.1 h0).2
    have hTB := (chk_iff.1 h0').2
    rw [samT]
    by_cases he : difO A B = none
    · have h1 := (dif_none hTA hTB ha hb).1 he
      obtain ⟨e1, e2⟩ := isCf_unique (isCf_congr h1 hcA) hcB
      rw [decide_eq_true ⟨h0, h0', he⟩, decide_eq_true ⟨e1, e2⟩]
    · rw [decide_eq_false (fun h => he h.2.2), decide_eq_false]
      rintro ⟨rfl, rfl⟩
      exact he ((dif_none hTA hTB ha hb).2 (fun a h => isCf_inj hcA hcB h))
  repeat (first | refine Vx ?_ | (apply Ops_q; (case hon => exact Va); (case hd => rfl); (case hq => exact YlA)) | refine Vr ?_ | refine Vt ?_ | refine Vf ?_ | refine Vm ?_ | refine Ve ?_ | refine Vo ?_ | refine Vz ?_ | refine Vn ?_)
  (refine Ops_alloc (by exact Va) rfl ?_; intro w6 b6 n_b6; have k_b6 := n_b6.blk)
  repeat (first | refine Vx ?_ | (apply Ops_q; (case hon => exact Va); (case hd => rfl); (case hq => exact YlA)) | refine Vr ?_ | refine Vt ?_ | refine Vf ?_ | refine Vm ?_ | refine Ve ?_ | refine Vo ?_ | refine Vz ?_ | refine Vn ?_)
  (refine Ops_store (by exact Va) rfl rfl (by assumption) (by first | rfl | exact OneAll.h) ?_; intro w7 u_w7; have k_b6 := u_w7.blk)
  have y7 : Ext w5 w7 := u_w7.below n_b6.ext n_b6.ge
  have x7 := x4.trans y7
  replace hN := hN.ext y7
  replace hL := hL.ext y7
  replace hM := hM.ext y7
  replace hK := hK.ext y7
  replace k_b3 := k_b3.ext y7
  have hTx := hT.ext x7
  have hTx' := hT'.ext x7
  clear u_w7 n_b6 y7 x4
  repeat (first | refine Vx ?_ | (apply Ops_q; (case hon => exact Va); (case hd => rfl); (case hq => exact YlA)) | refine Vr ?_ | refine Vt ?_ | refine Vf ?_ | refine Vm ?_ | refine Ve ?_ | refine Vo ?_ | refine Vz ?_ | refine Vn ?_)
  (apply Ops_q; (case hon => (exact Va)); (case hd => rfl); (case hq => exact Yl_call rfl (fun w_ e_ => awake8_v w_)))
  repeat (first | refine Vx ?_ | (apply Ops_q; (case hon => exact Va); (case hd => rfl); (case hq => exact YlA)) | refine Vr ?_ | refine Vt ?_ | refine Vf ?_ | refine Vm ?_ | refine Ve ?_ | refine Vo ?_ | refine Vz ?_ | refine Vn ?_)
  (apply Ops_q; (case hon => (exact Va)); (case hd => rfl); (case hq => exact Yl_call rfl (fun w_ e_ => sameL_v aN aM aL aK N M L K cN cM cL cK w_ (hN.ext e_) (hM.ext e_) (hL.ext e_) (hK.ext e_) (by omega) (by omega))))
  repeat (first | refine Vx ?_ | (apply Ops_q; (case hon => exact Va); (case hd => rfl); (case hq => exact YlA)) | refine Vr ?_ | refine Vt ?_ | refine Vf ?_ | refine Vm ?_ | refine Ve ?_ | refine Vo ?_ | refine Vz ?_ | refine Vn ?_)
  (apply Ops_q; (case hon => (exact Va)); (case hd => rfl); (case hq => exact Yl_call rfl (fun w_ e_ => sameR_v ao bo A B c d w_ (hTx.ext e_) ha hn hz (hTx'.ext e_) hb hn' hz')))
  rw [hsam]
  generalize decide (N = M ∧ L = K) = b at *
  have hbb : (b == b) = true := by cases b <;> rfl
  repeat (first | refine Vx ?_ | (apply Ops_q; (case hon => exact Va); (case hd => rfl); (case hq => exact YlA)) | refine Vr ?_ | refine Vt ?_ | refine Vf ?_ | refine Vm ?_ | refine Ve ?_ | refine Vo ?_ | refine Vz ?_ | refine Vn ?_)
  rw [hbb]
  refine ret1 (by first | exact .inl rfl | exact .inr rfl) rfl rfl ?_
  exact Ret_mk rfl x7
end Go.Proofs.Ytjpnaofoeeegeaa

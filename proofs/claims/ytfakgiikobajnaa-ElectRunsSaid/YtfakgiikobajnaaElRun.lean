/-
  Layer 27 (elect): the walks of Clone and Run.
  Conditions: the lists are not too long for a machine.
-/
import Derived.Test.YtfakgiikobajnaaElKP
import Derived.Test.YtfakgiikobajnaaElL
import Derived.Test.YtfakgiikobajnaaVCallE
import Derived.Test.YtfakgiikobajnaaVSub
namespace Go.Proofs.Ytfakgiikobajnaa
open Go.RowKit

section
variable {P : Program} {N : Nat} {m : Env} {w : World} {dst : Option Tmp} {ty : TypeId} {pos : String} {after : Array Edge} {g : Option (Nat × Bool)}
/-- A slice held against nil. -/
theorem Yl_eqnilS {t t' e : TypeId} {x y : Operand} {ao : Option Addr} {n c : Nat} [hu : TSlice P t e] (hx : ev m x = some (.slice ao n c)) (hy : ev m y = some (.slice none 0 0)) :
    Yl P N m w ⟨dst, .binOp .eql t x y t', ty, pos, after, g⟩ (.bool ao.isNone) :=
  Yl_of_run fun ac w' ha _ => by
    have h : ∀ d : Nat, (Op.equalIn (d + 1) t (.slice ao n c) (.slice none 0 0)).run P w' = .ok ao.isNone w' := fun d => by cases ao <;> simp [Op.equalIn, run_underlying hu.h]
    have h2 : (Op.equal t (.slice ao n c) (.slice none 0 0)).run P w' = .ok ao.isNone w' := h 9999
    simp [execOp, ha.ev hx, ha.ev hy, binOp, eqGuard, h2]
end
theorem hd_len (H : List Hd) : ∀ u ∈ H.map Hd.cells, u.length = 7 := fun u hu => by
  obtain ⟨e, _, rfl⟩ := List.mem_map.1 hu
  rfl
theorem hd_one (H : List Hd) : ∀ u ∈ H.map Hd.cells, u.all (fun u => u.oneCell') = true := fun u hu => by
  obtain ⟨e, _, rfl⟩ := List.mem_map.1 hu
  rfl
theorem nf_len (L : List Nf) : ∀ u ∈ L.map Nf.cells, u.length = 15 := fun u hu => by
  obtain ⟨e, _, rfl⟩ := List.mem_map.1 hu
  rfl
theorem nf_one (L : List Nf) : ∀ u ∈ L.map Nf.cells, u.all (fun u => u.oneCell') = true := fun u hu => by
  obtain ⟨e, _, rfl⟩ := List.mem_map.1 hu
  rfl
theorem cloneH_v (ao : Option Addr) (L : List Hd) (c : Nat) (w : World) (hA : Arr w 7 ao (L.map Hd.cells)) (hz : ao = none → L = []) (hb : L.length * 56 ≤ 140737488351232) :
    Calls Try.prog 34 #[.slice ao L.length c] w (Gives (fun r w' => Own w' w.heap.size 60 7 r (L.map Hd.cells)) w) := by
  refine V_enter (vs := [_]) Try.func34 rfl Try.ntmps34 (Nat.le_of_ble_eq_true rfl) ?_
  repeat (first | (apply Ops_q; (case hon => (first | exact on_none | exact on_guard rfl rfl)); (case hd => rfl); (case hq => exact YlA)) | refine V_seq ?_ | refine V_block ?_ | refine V_region ?_ | refine V_region_still rfl (by kernel_rfl) (by kernel_rfl) ?_ | refine V_skip ?_ | refine V_ret ?_ | refine V_exit ?_ | refine V_true rfl ?_ | refine V_false rfl ?_ | refine then_normal ?_ | refine then_ret ?_ | refine then_exit ?_ | refine block_normal ?_ | refine block_ret ?_ | refine block_hit ?_ | refine block_miss rfl ?_ | refine Ops_end rfl ?_ | (refine Ops_off ?_ rfl ?_; focus (first | exact off_guard rfl rfl rfl | exact off_undef rfl rfl)) | (apply Ops_q0; (case hon => exact on_none); (case hq => exact Yl_assign rfl)))
  (apply Ops_q; (case hon => exact on_none); (case hd => rfl); (case hq => exact Yl_eqnilS rfl rfl))
  cases ao with
  | none =>
    obtain rfl : L = [] := hz rfl
    repeat (first | (apply Ops_q; (case hon => (first | exact on_none | exact on_guard rfl rfl)); (case hd => rfl); (case hq => exact YlA)) | refine V_seq ?_ | refine V_block ?_ | refine V_region ?_ | refine V_region_still rfl (by kernel_rfl) (by kernel_rfl) ?_ | refine V_skip ?_ | refine V_ret ?_ | refine V_exit ?_ | refine V_true rfl ?_ | refine V_false rfl ?_ | refine then_normal ?_ | refine then_ret ?_ | refine then_exit ?_ | refine block_normal ?_ | refine block_ret ?_ | refine block_hit ?_ | refine block_miss rfl ?_ | refine Ops_end rfl ?_ | (refine Ops_off ?_ rfl ?_; focus (first | exact off_guard rfl rfl rfl | exact off_undef rfl rfl)) | (apply Ops_q0; (case hon => exact on_none); (case hq => exact Yl_assign rfl)))
    refine ret1 (by first | exact .inl rfl | exact .inr rfl) rfl rfl ?_
    exact Gives_mk (fun w' he => Own.nil) (Ext.refl _)
  | some ad =>
    repeat (first | (apply Ops_q; (case hon => (first | exact on_none | exact on_guard rfl rfl)); (case hd => rfl); (case hq => exact YlA)) | refine V_seq ?_ | refine V_block ?_ | refine V_region ?_ | refine V_region_still rfl (by kernel_rfl) (by kernel_rfl) ?_ | refine V_skip ?_ | refine V_ret ?_ | refine V_exit ?_ | refine V_true rfl ?_ | refine V_false rfl ?_ | refine then_normal ?_ | refine then_ret ?_ | refine then_exit ?_ | refine block_normal ?_ | refine block_ret ?_ | refine block_hit ?_ | refine block_miss rfl ?_ | refine Ops_end rfl ?_ | (refine Ops_off ?_ rfl ?_; focus (first | exact off_guard rfl rfl rfl | exact off_undef rfl rfl)) | (apply Ops_q0; (case hon => exact on_none); (case hq => exact Yl_assign rfl)))
    (refine Ops_lit0 (by first | exact on_none | exact on_guard rfl rfl) rfl ?_; intro w1 b1 n_b1 o_b1)
    repeat (first | (apply Ops_q; (case hon => (first | exact on_none | exact on_guard rfl rfl)); (case hd => rfl); (case hq => exact YlA)) | refine V_seq ?_ | refine V_block ?_ | refine V_region ?_ | refine V_region_still rfl (by kernel_rfl) (by kernel_rfl) ?_ | refine V_skip ?_ | refine V_ret ?_ | refine V_exit ?_ | refine V_true rfl ?_ | refine V_false rfl ?_ | refine then_normal ?_ | refine then_ret ?_ | refine then_exit ?_ | refine block_normal ?_ | refine block_ret ?_ | refine block_hit ?_ | refine block_miss rfl ?_ | refine Ops_end rfl ?_ | (refine Ops_off ?_ rfl ?_; focus (first | exact off_guard rfl rfl rfl | exact off_undef rfl rfl)) | (apply Ops_q0; (case hon => exact on_none); (case hq => exact Yl_assign rfl)))
    refine Ops_appendA (base := w.heap.size) (by first | exact on_none | exact on_guard rfl rfl) rfl rfl rfl rfl (List.length_map ..).symm o_b1 (hA.ext n_b1.ext) (fun h => by cases h) (hd_len L) (hd_one L) (by rw [List.length_map]; simp; omega) rfl n_b1.ext.size ?_
    intro v' w2 o2 g2 _
    have e2 := grow_below n_b1.ext g2 (fun b hb => by cases hb; exact n_b1.ge)
    repeat (first | (apply Ops_q; (case hon => (first | exact on_none | exact on_guard rfl rfl)); (case hd => rfl); (case hq => exact YlA)) | refine V_seq ?_ | refine V_block ?_ | refine V_region ?_ | refine V_region_still rfl (by kernel_rfl) (by kernel_rfl) ?_ | refine V_skip ?_ | refine V_ret ?_ | refine V_exit ?_ | refine V_true rfl ?_ | refine V_false rfl ?_ | refine then_normal ?_ | refine then_ret ?_ | refine then_exit ?_ | refine block_normal ?_ | refine block_ret ?_ | refine block_hit ?_ | refine block_miss rfl ?_ | refine Ops_end rfl ?_ | (refine Ops_off ?_ rfl ?_; focus (first | exact off_guard rfl rfl rfl | exact off_undef rfl rfl)) | (apply Ops_q0; (case hon => exact on_none); (case hq => exact Yl_assign rfl)))
    refine ret1 (by first | exact .inl rfl | exact .inr rfl) rfl rfl ?_
    exact Gives_mk (fun w' he => o2.ext he) e2
theorem cloneN_v (ao : Option Addr) (L : List Nf) (c : Nat) (w : World) (hA : Arr w 15 ao (L.map Nf.cells)) (hz : ao = none → L = []) (hb : L.length * 168 ≤ 140737488351232) :
    Calls Try.prog 33 #[.slice ao L.length c] w (Gives (fun r w' => Own w' w.heap.size 31 15 r (L.map Nf.cells)) w) := by
  refine V_enter (vs := [_]) Try.func33 rfl Try.ntmps33 (Nat.le_of_ble_eq_true rfl) ?_
  repeat (first | (apply Ops_q; (case hon => (first | exact on_none | exact on_guard rfl rfl)); (case hd => rfl); (case hq => exact YlA)) | refine V_seq ?_ | refine V_block ?_ | refine V_region ?_ | refine V_region_still rfl (by kernel_rfl) (by kernel_rfl) ?_ | refine V_skip ?_ | refine V_ret ?_ | refine V_exit ?_ | refine V_true rfl ?_ | refine V_false rfl ?_ | refine then_normal ?_ | refine then_ret ?_ | refine then_exit ?_ | refine block_normal ?_ | refine block_ret ?_ | refine block_hit ?_ | refine block_miss rfl ?_ | refine Ops_end rfl ?_ | (refine Ops_off ?_ rfl ?_; focus (first | exact off_guard rfl rfl rfl | exact off_undef rfl rfl)) | (apply Ops_q0; (case hon => exact on_none); (case hq => exact Yl_assign rfl)))
  (apply Ops_q; (case hon => exact on_none); (case hd => rfl); (case hq => exact Yl_eqnilS rfl rfl))
  cases ao with
  | none =>
    obtain rfl : L = [] := hz rfl
    repeat (first | (apply Ops_q; (case hon => (first | exact on_none | exact on_guard rfl rfl)); (case hd => rfl); (case hq => exact YlA)) | refine V_seq ?_ | refine V_block ?_ | refine V_region ?_ | refine V_region_still rfl (by kernel_rfl) (by kernel_rfl) ?_ | refine V_skip ?_ | refine V_ret ?_ | refine V_exit ?_ | refine V_true rfl ?_ | refine V_false rfl ?_ | refine then_normal ?_ | refine then_ret ?_ | refine then_exit ?_ | refine block_normal ?_ | refine block_ret ?_ | refine block_hit ?_ | refine block_miss rfl ?_ | refine Ops_end rfl ?_ | (refine Ops_off ?_ rfl ?_; focus (first | exact off_guard rfl rfl rfl | exact off_undef rfl rfl)) | (apply Ops_q0; (case hon => exact on_none); (case hq => exact Yl_assign rfl)))
    refine ret1 (by first | exact .inl rfl | exact .inr rfl) rfl rfl ?_
    exact Gives_mk (fun w' he => Own.nil) (Ext.refl _)
  | some ad =>
    repeat (first | (apply Ops_q; (case hon => (first | exact on_none | exact on_guard rfl rfl)); (case hd => rfl); (case hq => exact YlA)) | refine V_seq ?_ | refine V_block ?_ | refine V_region ?_ | refine V_region_still rfl (by kernel_rfl) (by kernel_rfl) ?_ | refine V_skip ?_ | refine V_ret ?_ | refine V_exit ?_ | refine V_true rfl ?_ | refine V_false rfl ?_ | refine then_normal ?_ | refine then_ret ?_ | refine then_exit ?_ | refine block_normal ?_ | refine block_ret ?_ | refine block_hit ?_ | refine block_miss rfl ?_ | refine Ops_end rfl ?_ | (refine Ops_off ?_ rfl ?_; focus (first | exact off_guard rfl rfl rfl | exact off_undef rfl rfl)) | (apply Ops_q0; (case hon => exact on_none); (case hq => exact Yl_assign rfl)))
    (refine Ops_lit0 (by first | exact on_none | exact on_guard rfl rfl) rfl ?_; intro w1 b1 n_b1 o_b1)
    repeat (first | (apply Ops_q; (case hon => (first | exact on_none | exact on_guard rfl rfl)); (case hd => rfl); (case hq => exact YlA)) | refine V_seq ?_ | refine V_block ?_ | refine V_region ?_ | refine V_region_still rfl (by kernel_rfl) (by kernel_rfl) ?_ | refine V_skip ?_ | refine V_ret ?_ | refine V_exit ?_ | refine V_true rfl ?_ | refine V_false rfl ?_ | refine then_normal ?_ | refine then_ret ?_ | refine then_exit ?_ | refine block_normal ?_ | refine block_ret ?_ | refine block_hit ?_ | refine block_miss rfl ?_ | refine Ops_end rfl ?_ | (refine Ops_off ?_ rfl ?_; focus (first | exact off_guard rfl rfl rfl | exact off_undef rfl rfl)) | (apply Ops_q0; (case hon => exact on_none); (case hq => exact Yl_assign rfl)))
    refine Ops_appendA (base := w.heap.size) (by first | exact on_none | exact on_guard rfl rfl) rfl rfl rfl rfl (List.length_map ..).symm o_b1 (hA.ext n_b1.ext) (fun h => by cases h) (nf_len L) (nf_one L) (by rw [List.length_map]; simp; omega) rfl n_b1.ext.size ?_
    intro v' w2 o2 g2 _
    have e2 := grow_below n_b1.ext g2 (fun b hb => by cases hb; exact n_b1.ge)
    repeat (first | (apply Ops_q; (case hon => (first | exact on_none | exact on_guard rfl rfl)); (case hd => rfl); (case hq => exact YlA)) | refine V_seq ?_ | refine V_block ?_ | refine V_region ?_ | refine V_region_still rfl (by kernel_rfl) (by kernel_rfl) ?_ | refine V_skip ?_ | refine V_ret ?_ | refine V_exit ?_ | refine V_true rfl ?_ | refine V_false rfl ?_ | refine then_normal ?_ | refine then_ret ?_ | refine then_exit ?_ | refine block_normal ?_ | refine block_ret ?_ | refine block_hit ?_ | refine block_miss rfl ?_ | refine Ops_end rfl ?_ | (refine Ops_off ?_ rfl ?_; focus (first | exact off_guard rfl rfl rfl | exact off_undef rfl rfl)) | (apply Ops_q0; (case hon => exact on_none); (case hq => exact Yl_assign rfl)))
    refine ret1 (by first | exact .inl rfl | exact .inr rfl) rfl rfl ?_
    exact Gives_mk (fun w' he => o2.ext he) e2
theorem cloneS_v (s : Sl) (H : List Hd) (w : World) (h : HsB w s H) : Calls Try.prog 34 #[.slice s.ao s.n s.c] w (Gives (fun r w' => Own w' w.heap.size 60 7 r (H.map Hd.cells)) w) := by
  obtain ⟨⟨h1, h2⟩, h3, h4⟩ := h
  rw [h2]; exact cloneH_v s.ao H s.c w h1 h4 h3
/-- A copy of a list of headers, beside the copies of the neighbors. -/
structure CH (W w : World) (base : Nat) (row : Option Nat) (s t : Sl) (H : List Hd) : Prop where
  src : HsB W s H
  own : Own w base 60 7 (.slice t.ao t.n t.c) (H.map Hd.cells)
  dis : (Value.slice t.ao t.n t.c).ownBlock ≠ row ∨ (Value.slice t.ao t.n t.c).ownBlock = none
theorem CH.ext {W w w' : World} {base : Nat} {row : Option Nat} {s t : Sl} {H : List Hd} (h : CH W w base row s t H) (he : Ext w w') : CH W w' base row s t H := ⟨h.src, h.own.ext he, h.dis⟩
theorem CH.grow {W w w' : World} {base : Nat} {row : Option Nat} {s t : Sl} {H : List Hd} (h : CH W w base row s t H) (hg : w.grownBy w' row) : CH W w' base row s t H := ⟨h.src, h.own.grow hg h.dis, h.dis⟩
theorem CH.hs {W w : World} {base : Nat} {row : Option Nat} {s t : Sl} {H : List Hd} (h : CH W w base row s t H) : Hs w t H := by
  obtain ⟨ao, c, hv, hA⟩ := h.own.slice
  obtain ⟨ao', n', c'⟩ := t
  simp only [Value.slice.injEq, List.length_map] at hv
  obtain ⟨rfl, rfl, rfl⟩ := hv
  exact ⟨hA, rfl⟩
def CloneN (W w : World) (base : Nat) (row : Option Nat) (x y : Nf) : Prop := ∃ (li se re ua : Sl) (H1 H2 H3 H4 : List Hd), y = { x with li := li, se := se, re := re, ua := ua } ∧
  CH W w base row x.li li H1 ∧ CH W w base row x.se se H2 ∧ CH W w base row x.re re H3 ∧ CH W w base row x.ua ua H4
theorem CloneN.ext {W w w' : World} {base : Nat} {row : Option Nat} {x y : Nf} (h : CloneN W w base row x y) (he : Ext w w') : CloneN W w' base row x y := by
  obtain ⟨li, se, re, ua, H1, H2, H3, H4, h0, h1, h2, h3, h4⟩ := h
  exact ⟨li, se, re, ua, H1, H2, H3, H4, h0, h1.ext he, h2.ext he, h3.ext he, h4.ext he⟩
theorem CloneN.grow {W w w' : World} {base : Nat} {row : Option Nat} {x y : Nf} (h : CloneN W w base row x y) (hg : w.grownBy w' row) : CloneN W w' base row x y := by
  obtain ⟨li, se, re, ua, H1, H2, H3, H4, h0, h1, h2, h3, h4⟩ := h
  exact ⟨li, se, re, ua, H1, H2, H3, H4, h0, h1.grow hg, h2.grow hg, h3.grow hg, h4.grow hg⟩
theorem CloneN.mod {W w w' : World} {base : Nat} {row : Option Nat} {x y : Nf} (h : CloneN W w base row x y) (hm : Mod (fun c => c < base) w w') : CloneN W w' base row x y := by
  obtain ⟨li, se, re, ua, H1, H2, H3, H4, h0, h1, h2, h3, h4⟩ := h
  have key : ∀ {s t : Sl} {H : List Hd}, CH W w base row s t H → CH W w' base row s t H := fun h => ⟨h.src, hm.own h.own (fun b hb => Nat.not_lt.2 (h.own.ge hb)), h.dis⟩
  exact ⟨li, se, re, ua, H1, H2, H3, H4, h0, key h1, key h2, key h3, key h4⟩
theorem CloneN.same {W w : World} {base : Nat} {row : Option Nat} {x y : Nf} (h : CloneN W w base row x y) (he : Ext W w) : SameN w x y := by
  obtain ⟨li, se, re, ua, H1, H2, H3, H4, h0, h1, h2, h3, h4⟩ := h
  exact ⟨li, se, re, ua, H1, H2, H3, H4, h0, ⟨h1.src.hs.ext he, h1.hs, by have := h1.src.bd; omega⟩, ⟨h2.src.hs.ext he, h2.hs, by have := h2.src.bd; omega⟩, ⟨h3.src.hs.ext he, h3.hs, by have := h3.src.bd; omega⟩, ⟨h4.src.hs.ext he, h4.hs, by have := h4.src.bd; omega⟩⟩
end Go.Proofs.Ytfakgiikobajnaa

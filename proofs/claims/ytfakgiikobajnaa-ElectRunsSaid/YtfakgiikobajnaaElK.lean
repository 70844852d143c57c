/-
  Layer 27 (elect): the walks of Candidates, of the program and of the reference.
  Conditions: the list is not too long for a machine.
-/
import Derived.Test.YtfakgiikobajnaaSortS
namespace Go.Proofs.Ytfakgiikobajnaa
open Go.RowKit

instance : OneAll [] := ⟨rfl⟩
instance (k : IntKind) (n : Int) (l : List Value) [h : OneAll l] : OneAll (.int k n :: l) := ⟨by rw [List.all_cons, h.h]; rfl⟩
instance (b : Bool) (l : List Value) [h : OneAll l] : OneAll (.bool b :: l) := ⟨by rw [List.all_cons, h.h]; rfl⟩
instance (a : Option Addr) (n c : Nat) (l : List Value) [h : OneAll l] : OneAll (.slice a n c :: l) := ⟨by rw [List.all_cons, h.h]; rfl⟩
/-- A slice's three numbers. -/
structure Sl where
  ao : Option Addr
  n : Nat
  c : Nat
def Sl.val (s : Sl) : Value := .slice s.ao s.n s.c
def Sl.none : Sl := ⟨Option.none, 0, 0⟩
/-- A neighbor with all its fields. -/
structure Nf where
  r : Int
  ad : Int
  p : Int
  d : Int
  b : Int
  st : Int
  un : Int
  ma : Bool
  sq : Int
  li : Sl
  se : Sl
  mo : Bool
  re : Sl
  ua : Sl
  rs : Int
abbrev Nf.cells (x : Nf) : List Value := [.int .u32 x.r, .int .u32 x.ad, .int .i64 x.p, .int .u32 x.d, .int .u32 x.b, .int .i64 x.st, .int .i64 x.un, .bool x.ma, .int .i64 x.sq, .slice x.li.ao x.li.n x.li.c, .slice x.se.ao x.se.n x.se.c, .bool x.mo, .slice x.re.ao x.re.n x.re.c, .slice x.ua.ao x.ua.n x.ua.c, .int .i64 x.rs]
def Nf.nb (x : Nf) : Nb := ⟨x.r, .int .u32 x.ad, x.p, x.d, x.b, [.int .i64 x.st, .int .i64 x.un, .bool x.ma, .int .i64 x.sq, .slice x.li.ao x.li.n x.li.c, .slice x.se.ao x.se.n x.se.c, .bool x.mo, .slice x.re.ao x.re.n x.re.c, .slice x.ua.ao x.ua.n x.ua.c, .int .i64 x.rs], rfl, rfl⟩
theorem Nf.nb_cells (x : Nf) : x.nb.cells = x.cells := rfl
/-- What a candidate says. -/
def cand (r ad p d b : Int) : Nf := ⟨r, ad, p, d, b, 0, 0, false, 0, .none, .none, false, .none, .none, 0⟩
def Nf.says (x : Nf) : Nf := cand x.r x.ad x.p x.d x.b
/-- The state of an interface. -/
structure Ist where
  k : Int
  pa : Int
  pl : Int
  ad : Int
  ar : Int
  co : Int
  pr : Int
  he : Int
  de : Int
  up : Bool
  d : Int
  b : Int
  el : Int
  nh : Int
  nb : Sl
abbrev Ist.cells (s : Ist) : List Value := [.int .i64 s.k, .int .u32 s.pa, .int .i64 s.pl, .int .u32 s.ad, .int .u32 s.ar, .int .i64 s.co, .int .i64 s.pr, .int .i64 s.he, .int .i64 s.de, .bool s.up, .int .u32 s.d, .int .u32 s.b, .int .i64 s.el, .int .i64 s.nh, .slice s.nb.ao s.nb.n s.nb.c]
abbrev Ist.val (s : Ist) : Value := .agg #[.int .i64 s.k, .int .u32 s.pa, .int .i64 s.pl, .int .u32 s.ad, .int .u32 s.ar, .int .i64 s.co, .int .i64 s.pr, .int .i64 s.he, .int .i64 s.de, .bool s.up, .int .u32 s.d, .int .u32 s.b, .int .i64 s.el, .int .i64 s.nh, .slice s.nb.ao s.nb.n s.nb.c]
def Ist.own (s : Ist) (router : Int) : Nf := cand router s.ad s.pr s.d s.b
/-- The neighbors of an interface, in memory. -/
def Nfs (w : World) (ao : Option Addr) (L : List Nf) : Prop := Arr w 15 ao (L.map Nf.cells)
theorem Nfs.ext {w w' : World} {ao : Option Addr} {L : List Nf} (h : Nfs w ao L) (he : Ext w w') : Nfs w' ao L := Arr.ext h he
theorem Nfs.at {w : World} {ao : Option Addr} {L : List Nf} (h : Nfs w ao L) {k : Nat} {x : Nf} (hk : L[k]? = some x) : ∃ ad, ao = some ad ∧ Cells w (ad.add (k * 15)) x.cells := h k x.cells (by rw [List.getElem?_map, hk]; rfl)
def keepB (router : Int) (x : Nf) : Bool := decide (2 ≤ x.st) && (decide (0 < x.p) && !decide (x.r = router))
/-- What Candidates sorts. -/
def outC (s : Ist) (router : Int) (L : List Nf) : List Nf := (L.filter (keepB router)).map Nf.says ++ if 0 < s.pr then [s.own router] else []

theorem less_v (x y : Nb) (w : World) : Calls Try.prog 31 #[x.val, y.val] w (Ret (.int .i64 (cmpI x.r y.r)) w) := by
  refine V_enter (vs := [_, _]) Try.func31 rfl Try.ntmps31 (Nat.le_of_ble_eq_true rfl) ?_
  repeat (first | (apply Ops_q; (case hon => (first | exact on_none | exact on_guard rfl rfl)); (case hd => rfl); (case hq => exact YlA)) | refine V_seq ?_ | refine V_block ?_ | refine V_region ?_ | refine V_region_still rfl (by kernel_rfl) (by kernel_rfl) ?_ | refine V_skip ?_ | refine V_ret ?_ | refine V_exit ?_ | refine V_true rfl ?_ | refine V_false rfl ?_ | refine then_normal ?_ | refine then_ret ?_ | refine then_exit ?_ | refine block_normal ?_ | refine block_ret ?_ | refine block_hit ?_ | refine block_miss rfl ?_ | refine Ops_end rfl ?_ | (refine Ops_off ?_ rfl ?_; focus (first | exact off_guard rfl rfl rfl | exact off_undef rfl rfl)) | (apply Ops_q0; (case hon => exact on_none); (case hq => exact Yl_assign rfl)))
  (refine Ops_box (by first | exact on_none | exact on_guard rfl rfl) rfl rfl rfl ?_; intro w1 b1 n_b1; have k_b1 := n_b1.blk)
  repeat (first | (apply Ops_q; (case hon => (first | exact on_none | exact on_guard rfl rfl)); (case hd => rfl); (case hq => exact YlA)) | refine V_seq ?_ | refine V_block ?_ | refine V_region ?_ | refine V_region_still rfl (by kernel_rfl) (by kernel_rfl) ?_ | refine V_skip ?_ | refine V_ret ?_ | refine V_exit ?_ | refine V_true rfl ?_ | refine V_false rfl ?_ | refine then_normal ?_ | refine then_ret ?_ | refine then_exit ?_ | refine block_normal ?_ | refine block_ret ?_ | refine block_hit ?_ | refine block_miss rfl ?_ | refine Ops_end rfl ?_ | (refine Ops_off ?_ rfl ?_; focus (first | exact off_guard rfl rfl rfl | exact off_undef rfl rfl)) | (apply Ops_q0; (case hon => exact on_none); (case hq => exact Yl_assign rfl)))
  (refine Ops_box (by first | exact on_none | exact on_guard rfl rfl) rfl rfl rfl ?_; intro w2 b2 n_b2; have k_b2 := n_b2.blk)
  replace k_b1 := k_b1.ext n_b2.ext
  repeat (first | (apply Ops_q; (case hon => (first | exact on_none | exact on_guard rfl rfl)); (case hd => rfl); (case hq => exact YlA)) | refine V_seq ?_ | refine V_block ?_ | refine V_region ?_ | refine V_region_still rfl (by kernel_rfl) (by kernel_rfl) ?_ | refine V_skip ?_ | refine V_ret ?_ | refine V_exit ?_ | refine V_true rfl ?_ | refine V_false rfl ?_ | refine then_normal ?_ | refine then_ret ?_ | refine then_exit ?_ | refine block_normal ?_ | refine block_ret ?_ | refine block_hit ?_ | refine block_miss rfl ?_ | refine Ops_end rfl ?_ | (refine Ops_off ?_ rfl ?_; focus (first | exact off_guard rfl rfl rfl | exact off_undef rfl rfl)) | (apply Ops_q0; (case hon => exact on_none); (case hq => exact Yl_assign rfl)))
  (apply Ops_q; (case hon => (first | exact on_none | exact on_guard rfl rfl)); (case hd => rfl); (case hq => exact Yl_call rfl (fun w_ e_ => compareU_v x.r y.r w_)))
  repeat (first | (apply Ops_q; (case hon => (first | exact on_none | exact on_guard rfl rfl)); (case hd => rfl); (case hq => exact YlA)) | refine V_seq ?_ | refine V_block ?_ | refine V_region ?_ | refine V_region_still rfl (by kernel_rfl) (by kernel_rfl) ?_ | refine V_skip ?_ | refine V_ret ?_ | refine V_exit ?_ | refine V_true rfl ?_ | refine V_false rfl ?_ | refine then_normal ?_ | refine then_ret ?_ | refine then_exit ?_ | refine block_normal ?_ | refine block_ret ?_ | refine block_hit ?_ | refine block_miss rfl ?_ | refine Ops_end rfl ?_ | (refine Ops_off ?_ rfl ?_; focus (first | exact off_guard rfl rfl rfl | exact off_undef rfl rfl)) | (apply Ops_q0; (case hon => exact on_none); (case hq => exact Yl_assign rfl)))
  refine ret1 (by first | exact .inl rfl | exact .inr rfl) rfl rfl ?_
  exact Ret_mk rfl (n_b1.ext.trans n_b2.ext)
theorem cmpI_neg (a b : Int) : cmpI a b < 0 ↔ a < b := by
  unfold cmpI
  split
  · rename_i h; exact ⟨fun _ => h, fun _ => by decide⟩
  · rename_i h
    split
    · exact ⟨fun h2 => absurd h2 (by decide), fun h2 => absurd h2 h⟩
    · exact ⟨fun h2 => absurd h2 (by decide), fun h2 => absurd h2 h⟩
theorem ord_r : Ord (fun x y : Nb => cmpI x.r y.r) := ⟨fun x y h => by rw [cmpI_neg] at *; omega, fun x y z h1 h2 => by rw [cmpI_neg] at *; omega⟩
set_option maxHeartbeats 2000000 in
theorem candidates_v (s : Ist) (router : Int) (L : List Nf) (w : World) (hL : Nfs w s.nb.ao L) (hln : s.nb.n = L.length) (hn : L.length * 168 ≤ 140737488351232) :
    Calls Try.prog 15 #[s.val, .int .u32 router] w
      (Gives (fun v w' => ∃ M : List Nb, Own w' w.heap.size 31 15 v (M.map Nb.cells) ∧ M.Perm ((outC s router L).map Nf.nb) ∧ Asc (fun x y : Nb => cmpI x.r y.r) M 0 M.length) w) := by
  obtain ⟨k0, pa, pl, ad0, ar, co, pr, he, de, up, d0, bd0, el, nh, ⟨ao, n, c⟩⟩ := s
  dsimp only at hL hln
  subst hln
  unfold Ist.val
  dsimp only
  refine V_enter (vs := [_, _]) Try.func15 rfl Try.ntmps15 (Nat.le_of_ble_eq_true rfl) ?_
  repeat (first | (apply Ops_q; (case hon => (first | exact on_none | exact on_guard rfl rfl)); (case hd => rfl); (case hq => exact YlA)) | refine V_seq ?_ | refine V_block ?_ | refine V_region ?_ | refine V_region_still rfl (by kernel_rfl) (by kernel_rfl) ?_ | refine V_skip ?_ | refine V_ret ?_ | refine V_exit ?_ | refine V_true rfl ?_ | refine V_false rfl ?_ | refine then_normal ?_ | refine then_ret ?_ | refine then_exit ?_ | refine block_normal ?_ | refine block_ret ?_ | refine block_hit ?_ | refine block_miss rfl ?_ | refine Ops_end rfl ?_ | (refine Ops_off ?_ rfl ?_; focus (first | exact off_guard rfl rfl rfl | exact off_undef rfl rfl)) | (apply Ops_q0; (case hon => exact on_none); (case hq => exact Yl_assign rfl)))
  (refine Ops_box (by first | exact on_none | exact on_guard rfl rfl) rfl rfl rfl ?_; intro w1 b1 n_b1; have k_b1 := n_b1.blk)
  replace hL := hL.ext n_b1.ext
  have g1 := n_b1.ext.size
  repeat (first | (apply Ops_q; (case hon => (first | exact on_none | exact on_guard rfl rfl)); (case hd => rfl); (case hq => exact YlA)) | refine V_seq ?_ | refine V_block ?_ | refine V_region ?_ | refine V_region_still rfl (by kernel_rfl) (by kernel_rfl) ?_ | refine V_skip ?_ | refine V_ret ?_ | refine V_exit ?_ | refine V_true rfl ?_ | refine V_false rfl ?_ | refine then_normal ?_ | refine then_ret ?_ | refine then_exit ?_ | refine block_normal ?_ | refine block_ret ?_ | refine block_hit ?_ | refine block_miss rfl ?_ | refine Ops_end rfl ?_ | (refine Ops_off ?_ rfl ?_; focus (first | exact off_guard rfl rfl rfl | exact off_undef rfl rfl)) | (apply Ops_q0; (case hon => exact on_none); (case hq => exact Yl_assign rfl)))
  refine V_loop (fun s : Nat × Value => [(11, .int .i64 s.1), (10, .int .i64 L.length), (9, .slice ao L.length c), (5, s.2), (2, .pointer (some ⟨b1, 0, none⟩)), (1, .int .u32 router)])
    (fun s w' => Ext w1 w' ∧ s.1 ≤ L.length ∧ Own w' w1.heap.size 31 15 s.2 (((L.take s.1).filter (keepB router)).map (fun x => x.says.nb.cells))) (fun s => L.length - s.1) (0, .slice none 0 0) (by repeat (first | exact trivial | refine ⟨rfl, ?_⟩)) ⟨Ext.refl _, Nat.zero_le _, Own.nil⟩ ?_
  rintro ⟨k, v⟩ w3 ⟨e3, hk, hO⟩
  dsimp only at hk hO ⊢
  replace hL := hL.ext e3
  replace k_b1 := k_b1.ext e3
  have g3 := e3.size
  repeat (first | (apply Ops_q; (case hon => (first | exact on_none | exact on_guard rfl rfl)); (case hd => rfl); (case hq => exact YlA)) | refine V_seq ?_ | refine V_block ?_ | refine V_region ?_ | refine V_region_still rfl (by kernel_rfl) (by kernel_rfl) ?_ | refine V_skip ?_ | refine V_ret ?_ | refine V_exit ?_ | refine V_true rfl ?_ | refine V_false rfl ?_ | refine then_normal ?_ | refine then_ret ?_ | refine then_exit ?_ | refine block_normal ?_ | refine block_ret ?_ | refine block_hit ?_ | refine block_miss rfl ?_ | refine Ops_end rfl ?_ | (refine Ops_off ?_ rfl ?_; focus (first | exact off_guard rfl rfl rfl | exact off_undef rfl rfl)) | (apply Ops_q0; (case hon => exact on_none); (case hq => exact Yl_assign rfl)))
  refine V_cond rfl (fun hg => ?_) (fun hg => ?_)
  · replace hg := of_decide_eq_true hg
    have hkl : k < L.length := by omega
    obtain ⟨x, hx⟩ : ∃ x, L[k]? = some x := ⟨_, List.getElem?_eq_getElem hkl⟩
    obtain ⟨ad, rfl, hc⟩ := hL.at hx
    have hst : (L.take (k + 1)).filter (keepB router) = (L.take k).filter (keepB router) ++ (if keepB router x then [x] else []) := by
      rw [List.take_add_one, hx, Option.toList_some, List.filter_append, List.filter_cons]
      rfl
    have hfl : ((L.take k).filter (keepB router)).length ≤ k := Nat.le_trans (List.length_filter_le _ _) (List.length_take_le _ _)
    repeat (first | (apply Ops_q; (case hon => (first | exact on_none | exact on_guard rfl rfl)); (case hd => rfl); (case hq => exact YlA)) | refine V_seq ?_ | refine V_block ?_ | refine V_region ?_ | refine V_region_still rfl (by kernel_rfl) (by kernel_rfl) ?_ | refine V_skip ?_ | refine V_ret ?_ | refine V_exit ?_ | refine V_true rfl ?_ | refine V_false rfl ?_ | refine then_normal ?_ | refine then_ret ?_ | refine then_exit ?_ | refine block_normal ?_ | refine block_ret ?_ | refine block_hit ?_ | refine block_miss rfl ?_ | refine Ops_end rfl ?_ | (refine Ops_off ?_ rfl ?_; focus (first | exact off_guard rfl rfl rfl | exact off_undef rfl rfl)) | (apply Ops_q0; (case hon => exact on_none); (case hq => exact Yl_assign rfl)))
    (apply Ops_q; (case hon => (first | exact on_none | exact on_guard rfl rfl)); (case hd => rfl); (case hq => exact Yl_indexS (j := k) rfl rfl (by omega)))
    repeat (first | (apply Ops_q; (case hon => (first | exact on_none | exact on_guard rfl rfl)); (case hd => rfl); (case hq => exact YlA)) | refine V_seq ?_ | refine V_block ?_ | refine V_region ?_ | refine V_region_still rfl (by kernel_rfl) (by kernel_rfl) ?_ | refine V_skip ?_ | refine V_ret ?_ | refine V_exit ?_ | refine V_true rfl ?_ | refine V_false rfl ?_ | refine then_normal ?_ | refine then_ret ?_ | refine then_exit ?_ | refine block_normal ?_ | refine block_ret ?_ | refine block_hit ?_ | refine block_miss rfl ?_ | refine Ops_end rfl ?_ | (refine Ops_off ?_ rfl ?_; focus (first | exact off_guard rfl rfl rfl | exact off_undef rfl rfl)) | (apply Ops_q0; (case hon => exact on_none); (case hq => exact Yl_assign rfl)))
    (refine Ops_alloc (by first | exact on_none | exact on_guard rfl rfl) rfl ?_; intro w4 b4 n_b4; have k_b4 := n_b4.blk)
    have ne_b1_b4 : b1 ≠ b4 := Nat.ne_of_lt (Nat.lt_of_lt_of_le k_b1.lt n_b4.ge)
    replace k_b1 := k_b1.ext n_b4.ext
    have hvb : v.ownBlock ≠ some b4 := fun e => by have := hO.lt e; have := n_b4.ge; omega
    repeat (first | (apply Ops_q; (case hon => (first | exact on_none | exact on_guard rfl rfl)); (case hd => rfl); (case hq => exact YlA)) | refine V_seq ?_ | refine V_block ?_ | refine V_region ?_ | refine V_region_still rfl (by kernel_rfl) (by kernel_rfl) ?_ | refine V_skip ?_ | refine V_ret ?_ | refine V_exit ?_ | refine V_true rfl ?_ | refine V_false rfl ?_ | refine then_normal ?_ | refine then_ret ?_ | refine then_exit ?_ | refine block_normal ?_ | refine block_ret ?_ | refine block_hit ?_ | refine block_miss rfl ?_ | refine Ops_end rfl ?_ | (refine Ops_off ?_ rfl ?_; focus (first | exact off_guard rfl rfl rfl | exact off_undef rfl rfl)) | (apply Ops_q0; (case hon => exact on_none); (case hq => exact Yl_assign rfl)))
    (refine Ops_store (by first | exact on_none | exact on_guard rfl rfl) rfl rfl (by assumption) (by first | rfl | exact OneAll.h) ?_; intro w5 u_w5; have k_b4 := u_w5.blk)
    replace k_b1 := u_w5.keep k_b1 ne_b1_b4
    have e5 : Ext w1 w5 := u_w5.below (e3.trans n_b4.ext) (Nat.le_trans g3 n_b4.ge)
    replace hO := (hO.ext n_b4.ext).upd u_w5 hvb
    repeat (first | (apply Ops_q; (case hon => (first | exact on_none | exact on_guard rfl rfl)); (case hd => rfl); (case hq => exact YlA)) | refine V_seq ?_ | refine V_block ?_ | refine V_region ?_ | refine V_region_still rfl (by kernel_rfl) (by kernel_rfl) ?_ | refine V_skip ?_ | refine V_ret ?_ | refine V_exit ?_ | refine V_true rfl ?_ | refine V_false rfl ?_ | refine then_normal ?_ | refine then_ret ?_ | refine then_exit ?_ | refine block_normal ?_ | refine block_ret ?_ | refine block_hit ?_ | refine block_miss rfl ?_ | refine Ops_end rfl ?_ | (refine Ops_off ?_ rfl ?_; focus (first | exact off_guard rfl rfl rfl | exact off_undef rfl rfl)) | (apply Ops_q0; (case hon => exact on_none); (case hq => exact Yl_assign rfl)))
    refine Ops_meet [(28, .bool (keepB router x)), (7, .pointer (some ⟨b4, 0, none⟩)), (11, .int .i64 k), (10, .int .i64 L.length), (9, .slice (some ad) L.length c), (5, v), (2, .pointer (some ⟨b1, 0, none⟩)), (1, .int .u32 router)] ?_ ?_
    · refine Ops_split rfl rfl (fun h1 => ?_) (fun h1 => ?_)
      · repeat (first | (apply Ops_q; (case hon => (first | exact on_none | exact on_guard rfl rfl)); (case hd => rfl); (case hq => exact YlA)) | refine V_seq ?_ | refine V_block ?_ | refine V_region ?_ | refine V_region_still rfl (by kernel_rfl) (by kernel_rfl) ?_ | refine V_skip ?_ | refine V_ret ?_ | refine V_exit ?_ | refine V_true rfl ?_ | refine V_false rfl ?_ | refine then_normal ?_ | refine then_ret ?_ | refine then_exit ?_ | refine block_normal ?_ | refine block_ret ?_ | refine block_hit ?_ | refine block_miss rfl ?_ | refine Ops_end rfl ?_ | (refine Ops_off ?_ rfl ?_; focus (first | exact off_guard rfl rfl rfl | exact off_undef rfl rfl)) | (apply Ops_q0; (case hon => exact on_none); (case hq => exact Yl_assign rfl)))
        refine Ops_split rfl rfl (fun h2 => ?_) (fun h2 => ?_)
        · repeat (first | (apply Ops_q; (case hon => (first | exact on_none | exact on_guard rfl rfl)); (case hd => rfl); (case hq => exact YlA)) | refine V_seq ?_ | refine V_block ?_ | refine V_region ?_ | refine V_region_still rfl (by kernel_rfl) (by kernel_rfl) ?_ | refine V_skip ?_ | refine V_ret ?_ | refine V_exit ?_ | refine V_true rfl ?_ | refine V_false rfl ?_ | refine then_normal ?_ | refine then_ret ?_ | refine then_exit ?_ | refine block_normal ?_ | refine block_ret ?_ | refine block_hit ?_ | refine block_miss rfl ?_ | refine Ops_end rfl ?_ | (refine Ops_off ?_ rfl ?_; focus (first | exact off_guard rfl rfl rfl | exact off_undef rfl rfl)) | (apply Ops_q0; (case hon => exact on_none); (case hq => exact Yl_assign rfl)))
          refine ⟨⟨?_, (by repeat (first | exact trivial | refine ⟨rfl, ?_⟩))⟩, rfl⟩
          rw [keepB, h1, h2]; exact rfl
        · repeat (first | (apply Ops_q; (case hon => (first | exact on_none | exact on_guard rfl rfl)); (case hd => rfl); (case hq => exact YlA)) | refine V_seq ?_ | refine V_block ?_ | refine V_region ?_ | refine V_region_still rfl (by kernel_rfl) (by kernel_rfl) ?_ | refine V_skip ?_ | refine V_ret ?_ | refine V_exit ?_ | refine V_true rfl ?_ | refine V_false rfl ?_ | refine then_normal ?_ | refine then_ret ?_ | refine then_exit ?_ | refine block_normal ?_ | refine block_ret ?_ | refine block_hit ?_ | refine block_miss rfl ?_ | refine Ops_end rfl ?_ | (refine Ops_off ?_ rfl ?_; focus (first | exact off_guard rfl rfl rfl | exact off_undef rfl rfl)) | (apply Ops_q0; (case hon => exact on_none); (case hq => exact Yl_assign rfl)))
          refine ⟨⟨?_, (by repeat (first | exact trivial | refine ⟨rfl, ?_⟩))⟩, rfl⟩
          rw [keepB, h1, h2]; exact rfl
      · repeat (first | (apply Ops_q; (case hon => (first | exact on_none | exact on_guard rfl rfl)); (case hd => rfl); (case hq => exact YlA)) | refine V_seq ?_ | refine V_block ?_ | refine V_region ?_ | refine V_region_still rfl (by kernel_rfl) (by kernel_rfl) ?_ | refine V_skip ?_ | refine V_ret ?_ | refine V_exit ?_ | refine V_true rfl ?_ | refine V_false rfl ?_ | refine then_normal ?_ | refine then_ret ?_ | refine then_exit ?_ | refine block_normal ?_ | refine block_ret ?_ | refine block_hit ?_ | refine block_miss rfl ?_ | refine Ops_end rfl ?_ | (refine Ops_off ?_ rfl ?_; focus (first | exact off_guard rfl rfl rfl | exact off_undef rfl rfl)) | (apply Ops_q0; (case hon => exact on_none); (case hq => exact Yl_assign rfl)))
        refine ⟨⟨?_, (by repeat (first | exact trivial | refine ⟨rfl, ?_⟩))⟩, rfl⟩
        rw [keepB, h1]; exact rfl
    repeat (first | (apply Ops_q; (case hon => (first | exact on_none | exact on_guard rfl rfl)); (case hd => rfl); (case hq => exact YlA)) | refine V_seq ?_ | refine V_block ?_ | refine V_region ?_ | refine V_region_still rfl (by kernel_rfl) (by kernel_rfl) ?_ | refine V_skip ?_ | refine V_ret ?_ | refine V_exit ?_ | refine V_true rfl ?_ | refine V_false rfl ?_ | refine then_normal ?_ | refine then_ret ?_ | refine then_exit ?_ | refine block_normal ?_ | refine block_ret ?_ | refine block_hit ?_ | refine block_miss rfl ?_ | refine Ops_end rfl ?_ | (refine Ops_off ?_ rfl ?_; focus (first | exact off_guard rfl rfl rfl | exact off_undef rfl rfl)) | (apply Ops_q0; (case hon => exact on_none); (case hq => exact Yl_assign rfl)))
    refine V_cond rfl (fun h5 => ?_) (fun h5 => ?_)
    · rw [if_pos h5] at hst
      repeat (first | (apply Ops_q; (case hon => (first | exact on_none | exact on_guard rfl rfl)); (case hd => rfl); (case hq => exact YlA)) | refine V_seq ?_ | refine V_block ?_ | refine V_region ?_ | refine V_region_still rfl (by kernel_rfl) (by kernel_rfl) ?_ | refine V_skip ?_ | refine V_ret ?_ | refine V_exit ?_ | refine V_true rfl ?_ | refine V_false rfl ?_ | refine then_normal ?_ | refine then_ret ?_ | refine then_exit ?_ | refine block_normal ?_ | refine block_ret ?_ | refine block_hit ?_ | refine block_miss rfl ?_ | refine Ops_end rfl ?_ | (refine Ops_off ?_ rfl ?_; focus (first | exact off_guard rfl rfl rfl | exact off_undef rfl rfl)) | (apply Ops_q0; (case hon => exact on_none); (case hq => exact Yl_assign rfl)))
      (refine Ops_lit (by first | exact on_none | exact on_guard rfl rfl) rfl rfl rfl ?_; intro w7 b7 n_b7; have k_b7 := n_b7.blk)
      have o7 := hO.ext n_b7.ext
      have e7 := e5.trans n_b7.ext
      repeat (first | (apply Ops_q; (case hon => (first | exact on_none | exact on_guard rfl rfl)); (case hd => rfl); (case hq => exact YlA)) | refine V_seq ?_ | refine V_block ?_ | refine V_region ?_ | refine V_region_still rfl (by kernel_rfl) (by kernel_rfl) ?_ | refine V_skip ?_ | refine V_ret ?_ | refine V_exit ?_ | refine V_true rfl ?_ | refine V_false rfl ?_ | refine then_normal ?_ | refine then_ret ?_ | refine then_exit ?_ | refine block_normal ?_ | refine block_ret ?_ | refine block_hit ?_ | refine block_miss rfl ?_ | refine Ops_end rfl ?_ | (refine Ops_off ?_ rfl ?_; focus (first | exact off_guard rfl rfl rfl | exact off_undef rfl rfl)) | (apply Ops_q0; (case hon => exact on_none); (case hq => exact Yl_assign rfl)))
      have hroom : (((L.take k).filter (keepB router)).map (fun x => x.says.nb.cells)).length + 1 ≤ L.length := by rw [List.length_map]; omega
      (refine Ops_append1 (by first | exact on_none | exact on_guard rfl rfl) rfl rfl rfl rfl o7 k_b7.cells inferInstance inferInstance (Nat.le_trans (Nat.mul_le_mul_right 168 hroom) (Nat.le_trans hn (by decide))) rfl e7.size ?_; intro v' w8 o_v' g_w8 d_v')
      have e8 := grow_below e7 g_w8 (fun b hb => o7.ge hb)
      repeat (first | (apply Ops_q; (case hon => (first | exact on_none | exact on_guard rfl rfl)); (case hd => rfl); (case hq => exact YlA)) | refine V_seq ?_ | refine V_block ?_ | refine V_region ?_ | refine V_region_still rfl (by kernel_rfl) (by kernel_rfl) ?_ | refine V_skip ?_ | refine V_ret ?_ | refine V_exit ?_ | refine V_true rfl ?_ | refine V_false rfl ?_ | refine then_normal ?_ | refine then_ret ?_ | refine then_exit ?_ | refine block_normal ?_ | refine block_ret ?_ | refine block_hit ?_ | refine block_miss rfl ?_ | refine Ops_end rfl ?_ | (refine Ops_off ?_ rfl ?_; focus (first | exact off_guard rfl rfl rfl | exact off_undef rfl rfl)) | (apply Ops_q0; (case hon => exact on_none); (case hq => exact Yl_assign rfl)))
      refine ⟨(k + 1, v'), (by repeat (first | exact trivial | refine ⟨rfl, ?_⟩)), ⟨e8, hkl, ?_⟩, by simp only; omega⟩
      dsimp only
      rw [hst, List.map_append]; exact o_v'
    · rw [if_neg (by rw [h5]; exact Bool.false_ne_true), List.append_nil] at hst
      repeat (first | (apply Ops_q; (case hon => (first | exact on_none | exact on_guard rfl rfl)); (case hd => rfl); (case hq => exact YlA)) | refine V_seq ?_ | refine V_block ?_ | refine V_region ?_ | refine V_region_still rfl (by kernel_rfl) (by kernel_rfl) ?_ | refine V_skip ?_ | refine V_ret ?_ | refine V_exit ?_ | refine V_true rfl ?_ | refine V_false rfl ?_ | refine then_normal ?_ | refine then_ret ?_ | refine then_exit ?_ | refine block_normal ?_ | refine block_ret ?_ | refine block_hit ?_ | refine block_miss rfl ?_ | refine Ops_end rfl ?_ | (refine Ops_off ?_ rfl ?_; focus (first | exact off_guard rfl rfl rfl | exact off_undef rfl rfl)) | (apply Ops_q0; (case hon => exact on_none); (case hq => exact Yl_assign rfl)))
      refine ⟨(k + 1, v), (by repeat (first | exact trivial | refine ⟨rfl, ?_⟩)), ⟨e5, hkl, ?_⟩, by simp only; omega⟩
      dsimp only
      rw [hst]; exact hO
  replace hg := of_decide_eq_false hg
  obtain rfl : k = L.length := by omega
  rw [List.take_length] at hO
  have hfl : (L.filter (keepB router)).length ≤ L.length := List.length_filter_le _ _
  obtain ⟨s, hs⟩ : ∃ s : Ist, s = ⟨k0, pa, pl, ad0, ar, co, pr, he, de, up, d0, bd0, el, nh, ⟨ao, L.length, c⟩⟩ := ⟨_, rfl⟩
  have hcells : ∀ M : List Nf, (M.map Nf.says).map (fun x => x.nb.cells) = M.map (fun x => x.says.nb.cells) := fun M => by rw [List.map_map]; rfl
  repeat (first | (apply Ops_q; (case hon => (first | exact on_none | exact on_guard rfl rfl)); (case hd => rfl); (case hq => exact YlA)) | refine V_seq ?_ | refine V_block ?_ | refine V_region ?_ | refine V_region_still rfl (by kernel_rfl) (by kernel_rfl) ?_ | refine V_skip ?_ | refine V_ret ?_ | refine V_exit ?_ | refine V_true rfl ?_ | refine V_false rfl ?_ | refine then_normal ?_ | refine then_ret ?_ | refine then_exit ?_ | refine block_normal ?_ | refine block_ret ?_ | refine block_hit ?_ | refine block_miss rfl ?_ | refine Ops_end rfl ?_ | (refine Ops_off ?_ rfl ?_; focus (first | exact off_guard rfl rfl rfl | exact off_undef rfl rfl)) | (apply Ops_q0; (case hon => exact on_none); (case hq => exact Yl_assign rfl)))
  refine V_meet1 (fun v : Value => [(5, v)]) (fun v w' => Ext w1 w' ∧ Own w' w1.heap.size 31 15 v ((outC s router L).map (fun x => x.nb.cells))) ?_ ?_
  · refine V_cond rfl (fun h1 => ?_) (fun h1 => ?_)
    · have hpr : 0 < s.pr := by rw [hs]; exact of_decide_eq_true h1
      repeat (first | (apply Ops_q; (case hon => (first | exact on_none | exact on_guard rfl rfl)); (case hd => rfl); (case hq => exact YlA)) | refine V_seq ?_ | refine V_block ?_ | refine V_region ?_ | refine V_region_still rfl (by kernel_rfl) (by kernel_rfl) ?_ | refine V_skip ?_ | refine V_ret ?_ | refine V_exit ?_ | refine V_true rfl ?_ | refine V_false rfl ?_ | refine then_normal ?_ | refine then_ret ?_ | refine then_exit ?_ | refine block_normal ?_ | refine block_ret ?_ | refine block_hit ?_ | refine block_miss rfl ?_ | refine Ops_end rfl ?_ | (refine Ops_off ?_ rfl ?_; focus (first | exact off_guard rfl rfl rfl | exact off_undef rfl rfl)) | (apply Ops_q0; (case hon => exact on_none); (case hq => exact Yl_assign rfl)))
      (refine Ops_lit (by first | exact on_none | exact on_guard rfl rfl) rfl rfl rfl ?_; intro w7 b7 n_b7; have k_b7 := n_b7.blk)
      have o7 := hO.ext n_b7.ext
      have e7 := e3.trans n_b7.ext
      repeat (first | (apply Ops_q; (case hon => (first | exact on_none | exact on_guard rfl rfl)); (case hd => rfl); (case hq => exact YlA)) | refine V_seq ?_ | refine V_block ?_ | refine V_region ?_ | refine V_region_still rfl (by kernel_rfl) (by kernel_rfl) ?_ | refine V_skip ?_ | refine V_ret ?_ | refine V_exit ?_ | refine V_true rfl ?_ | refine V_false rfl ?_ | refine then_normal ?_ | refine then_ret ?_ | refine then_exit ?_ | refine block_normal ?_ | refine block_ret ?_ | refine block_hit ?_ | refine block_miss rfl ?_ | refine Ops_end rfl ?_ | (refine Ops_off ?_ rfl ?_; focus (first | exact off_guard rfl rfl rfl | exact off_undef rfl rfl)) | (apply Ops_q0; (case hon => exact on_none); (case hq => exact Yl_assign rfl)))
      have hroom : ((L.filter (keepB router)).map (fun x => x.says.nb.cells)).length + 1 ≤ L.length + 1 := by rw [List.length_map]; omega
      have hn1 : (L.length + 1) * 168 ≤ 140737488355328 := by omega
      (refine Ops_append1 (by first | exact on_none | exact on_guard rfl rfl) rfl rfl rfl rfl o7 k_b7.cells inferInstance inferInstance (Nat.le_trans (Nat.mul_le_mul_right 168 hroom) hn1) rfl e7.size ?_; intro v' w8 o_v' g_w8 d_v')
      have e8 := grow_below e7 g_w8 (fun b hb => o7.ge hb)
      repeat (first | (apply Ops_q; (case hon => (first | exact on_none | exact on_guard rfl rfl)); (case hd => rfl); (case hq => exact YlA)) | refine V_seq ?_ | refine V_block ?_ | refine V_region ?_ | refine V_region_still rfl (by kernel_rfl) (by kernel_rfl) ?_ | refine V_skip ?_ | refine V_ret ?_ | refine V_exit ?_ | refine V_true rfl ?_ | refine V_false rfl ?_ | refine then_normal ?_ | refine then_ret ?_ | refine then_exit ?_ | refine block_normal ?_ | refine block_ret ?_ | refine block_hit ?_ | refine block_miss rfl ?_ | refine Ops_end rfl ?_ | (refine Ops_off ?_ rfl ?_; focus (first | exact off_guard rfl rfl rfl | exact off_undef rfl rfl)) | (apply Ops_q0; (case hon => exact on_none); (case hq => exact Yl_assign rfl)))
      refine ⟨v', (by repeat (first | exact trivial | refine ⟨rfl, ?_⟩)), e8, ?_⟩
      rw [outC, if_pos hpr, List.map_append, hcells, hs]; exact o_v'
    · have hpr : ¬0 < s.pr := by rw [hs]; exact of_decide_eq_false h1
      repeat (first | (apply Ops_q; (case hon => (first | exact on_none | exact on_guard rfl rfl)); (case hd => rfl); (case hq => exact YlA)) | refine V_seq ?_ | refine V_block ?_ | refine V_region ?_ | refine V_region_still rfl (by kernel_rfl) (by kernel_rfl) ?_ | refine V_skip ?_ | refine V_ret ?_ | refine V_exit ?_ | refine V_true rfl ?_ | refine V_false rfl ?_ | refine then_normal ?_ | refine then_ret ?_ | refine then_exit ?_ | refine block_normal ?_ | refine block_ret ?_ | refine block_hit ?_ | refine block_miss rfl ?_ | refine Ops_end rfl ?_ | (refine Ops_off ?_ rfl ?_; focus (first | exact off_guard rfl rfl rfl | exact off_undef rfl rfl)) | (apply Ops_q0; (case hon => exact on_none); (case hq => exact Yl_assign rfl)))
      refine ⟨v, (by repeat (first | exact trivial | refine ⟨rfl, ?_⟩)), e3, ?_⟩
      rw [outC, if_neg hpr, List.append_nil, hcells]; exact hO
  rintro v' w5 ⟨e5, o5⟩
  have hmm : ∀ M : List Nf, M.map (fun x => x.nb.cells) = (M.map Nf.nb).map Nb.cells := fun M => by rw [List.map_map]; rfl
  rw [hmm] at o5
  have hol : ((outC s router L).map Nf.nb).length ≤ L.length + 1 := by
    rw [List.length_map, outC, List.length_append, List.length_map]
    split
    · simp; omega
    · simp; omega
  rw [← hs]
  generalize (outC s router L).map Nf.nb = T at *
  clear hO hcells hmm hs
  have hTl : (T.map Nb.cells).length = T.length := List.length_map ..
  obtain ⟨_, ⟨h1, h2⟩ | ⟨g, cap, cur, h1, hg2, _⟩⟩ := o5.row
  · subst h1
    have hT : T = [] := List.length_eq_zero_iff.1 (by rw [← hTl]; exact h2)
    subst hT
    repeat (first | (apply Ops_q; (case hon => (first | exact on_none | exact on_guard rfl rfl)); (case hd => rfl); (case hq => exact YlA)) | refine V_seq ?_ | refine V_block ?_ | refine V_region ?_ | refine V_region_still rfl (by kernel_rfl) (by kernel_rfl) ?_ | refine V_skip ?_ | refine V_ret ?_ | refine V_exit ?_ | refine V_true rfl ?_ | refine V_false rfl ?_ | refine then_normal ?_ | refine then_ret ?_ | refine then_exit ?_ | refine block_normal ?_ | refine block_ret ?_ | refine block_hit ?_ | refine block_miss rfl ?_ | refine Ops_end rfl ?_ | (refine Ops_off ?_ rfl ?_; focus (first | exact off_guard rfl rfl rfl | exact off_undef rfl rfl)) | (apply Ops_q0; (case hon => exact on_none); (case hq => exact Yl_assign rfl)))
    (apply Ops_q; (case hon => (first | exact on_none | exact on_guard rfl rfl)); (case hd => rfl); (case hq => exact Yl_call rfl (fun w_ e_ => sortStable_nil _ w_)))
    repeat (first | (apply Ops_q; (case hon => (first | exact on_none | exact on_guard rfl rfl)); (case hd => rfl); (case hq => exact YlA)) | refine V_seq ?_ | refine V_block ?_ | refine V_region ?_ | refine V_region_still rfl (by kernel_rfl) (by kernel_rfl) ?_ | refine V_skip ?_ | refine V_ret ?_ | refine V_exit ?_ | refine V_true rfl ?_ | refine V_false rfl ?_ | refine then_normal ?_ | refine then_ret ?_ | refine then_exit ?_ | refine block_normal ?_ | refine block_ret ?_ | refine block_hit ?_ | refine block_miss rfl ?_ | refine Ops_end rfl ?_ | (refine Ops_off ?_ rfl ?_; focus (first | exact off_guard rfl rfl rfl | exact off_undef rfl rfl)) | (apply Ops_q0; (case hon => exact on_none); (case hq => exact Yl_assign rfl)))
    refine ret1 (by first | exact .inl rfl | exact .inr rfl) rfl rfl ?_
    exact Gives_mk (fun w' he => ⟨[], (o5.ext he).mono g1, .refl _, Asc.one (by simp)⟩) (n_b1.ext.trans e5)
  · subst h1
    have hD : Dat w5 w1.heap.size g T.length cap T := ⟨by rw [hTl] at o5; exact o5, rfl⟩
    rw [hTl]
    repeat (first | (apply Ops_q; (case hon => (first | exact on_none | exact on_guard rfl rfl)); (case hd => rfl); (case hq => exact YlA)) | refine V_seq ?_ | refine V_block ?_ | refine V_region ?_ | refine V_region_still rfl (by kernel_rfl) (by kernel_rfl) ?_ | refine V_skip ?_ | refine V_ret ?_ | refine V_exit ?_ | refine V_true rfl ?_ | refine V_false rfl ?_ | refine then_normal ?_ | refine then_ret ?_ | refine then_exit ?_ | refine block_normal ?_ | refine block_ret ?_ | refine block_hit ?_ | refine block_miss rfl ?_ | refine Ops_end rfl ?_ | (refine Ops_off ?_ rfl ?_; focus (first | exact off_guard rfl rfl rfl | exact off_undef rfl rfl)) | (apply Ops_q0; (case hon => exact on_none); (case hq => exact Yl_assign rfl)))
    refine Ops_callM (S := Blk1 g) (R := fun _ => DatR w1.heap.size g T.length cap (fun L' => L'.Perm T ∧ Asc (fun x y : Nb => cmpI x.r y.r) L' 0 T.length)) (by first | exact on_none | exact on_guard rfl rfl) rfl rfl (fun w_ e_ => sortStable_v ord_r less_v (by omega) T w_ (hD.ext e_)) ?_
    intro r w6 w0_ e0 m6 hR
    obtain ⟨rfl, M, D6, hp, hA⟩ := hR
    have e6 : Ext w w6 := Mod.ext_of ((n_b1.ext.trans e5).trans e0) m6 (fun c hc => by rw [hc]; omega)
    have hMl : M.length = T.length := D6.len
    repeat (first | (apply Ops_q; (case hon => (first | exact on_none | exact on_guard rfl rfl)); (case hd => rfl); (case hq => exact YlA)) | refine V_seq ?_ | refine V_block ?_ | refine V_region ?_ | refine V_region_still rfl (by kernel_rfl) (by kernel_rfl) ?_ | refine V_skip ?_ | refine V_ret ?_ | refine V_exit ?_ | refine V_true rfl ?_ | refine V_false rfl ?_ | refine then_normal ?_ | refine then_ret ?_ | refine then_exit ?_ | refine block_normal ?_ | refine block_ret ?_ | refine block_hit ?_ | refine block_miss rfl ?_ | refine Ops_end rfl ?_ | (refine Ops_off ?_ rfl ?_; focus (first | exact off_guard rfl rfl rfl | exact off_undef rfl rfl)) | (apply Ops_q0; (case hon => exact on_none); (case hq => exact Yl_assign rfl)))
    refine ret1 (by first | exact .inl rfl | exact .inr rfl) rfl rfl ?_
    refine Gives_mk (fun w' he => ⟨M, (D6.own.ext he).mono g1, hp, ?_⟩) e6
    rw [hMl]; exact hA
/-! ### The reference -/
def rl (router : Int) (own : Nf) (done : Bool) : List Nf → List Nf
  | [] => if done then [] else [own]
  | x :: r => if keepB router x then (if !done && decide (router < x.r) then own :: x.says :: rl router own true r else x.says :: rl router own done r) else rl router own done r
theorem rl_len (router : Int) (own : Nf) : ∀ (L : List Nf) (done : Bool), (rl router own done L).length ≤ L.length + 1
  | [], done => by cases done <;> simp [rl]
  | x :: r, done => by
    have h1 := rl_len router own r true
    have h2 := rl_len router own r done
    rw [rl, List.length_cons]
    split
    · split
      · rename_i h3
        simp only [Bool.and_eq_true, Bool.not_eq_true'] at h3
        have h4 : ∀ L : List Nf, (rl router own true L).length ≤ L.length := fun L => by
          induction L with
          | nil => simp [rl]
          | cons y t ih =>
            rw [rl, List.length_cons]
            split
            · rw [if_neg (by simp)]; simp; omega
            · omega
        have := h4 r
        simp; omega
      · simp; omega
    · omega
set_option maxHeartbeats 2000000 in
theorem rcandidates_v (s : Ist) (router : Int) (L : List Nf) (w : World) (hL : Nfs w s.nb.ao L) (hln : s.nb.n = L.length) (hn : L.length * 168 ≤ 140737488351232) :
    Calls Try.prog 16 #[s.val, .int .u32 router] w
      (Gives (fun v w' => Own w' w.heap.size 31 15 v ((rl router (s.own router) (decide (s.pr ≤ 0)) L).map Nf.cells)) w) := by
  obtain ⟨k0, pa, pl, ad0, ar, co, pr, he, de, up, d0, bd0, el, nh, ⟨ao, n, c⟩⟩ := s
  dsimp only at hL hln
  subst hln
  unfold Ist.val Ist.own
  dsimp only
  have hrl := rl_len router (cand router ad0 pr d0 bd0) L (decide (pr ≤ 0))
  refine V_enter (vs := [_, _]) Try.func16 rfl Try.ntmps16 (Nat.le_of_ble_eq_true rfl) ?_
  repeat (first | (apply Ops_q; (case hon => (first | exact on_none | exact on_guard rfl rfl)); (case hd => rfl); (case hq => exact YlA)) | refine V_seq ?_ | refine V_block ?_ | refine V_region ?_ | refine V_region_still rfl (by kernel_rfl) (by kernel_rfl) ?_ | refine V_skip ?_ | refine V_ret ?_ | refine V_exit ?_ | refine V_true rfl ?_ | refine V_false rfl ?_ | refine then_normal ?_ | refine then_ret ?_ | refine then_exit ?_ | refine block_normal ?_ | refine block_ret ?_ | refine block_hit ?_ | refine block_miss rfl ?_ | refine Ops_end rfl ?_ | (refine Ops_off ?_ rfl ?_; focus (first | exact off_guard rfl rfl rfl | exact off_undef rfl rfl)) | (apply Ops_q0; (case hon => exact on_none); (case hq => exact Yl_assign rfl)))
  (refine Ops_box (by first | exact on_none | exact on_guard rfl rfl) rfl rfl rfl ?_; intro w1 b1 n_b1; have k_b1 := n_b1.blk)
  have g1 := n_b1.ext.size
  repeat (first | (apply Ops_q; (case hon => (first | exact on_none | exact on_guard rfl rfl)); (case hd => rfl); (case hq => exact YlA)) | refine V_seq ?_ | refine V_block ?_ | refine V_region ?_ | refine V_region_still rfl (by kernel_rfl) (by kernel_rfl) ?_ | refine V_skip ?_ | refine V_ret ?_ | refine V_exit ?_ | refine V_true rfl ?_ | refine V_false rfl ?_ | refine then_normal ?_ | refine then_ret ?_ | refine then_exit ?_ | refine block_normal ?_ | refine block_ret ?_ | refine block_hit ?_ | refine block_miss rfl ?_ | refine Ops_end rfl ?_ | (refine Ops_off ?_ rfl ?_; focus (first | exact off_guard rfl rfl rfl | exact off_undef rfl rfl)) | (apply Ops_q0; (case hon => exact on_none); (case hq => exact Yl_assign rfl)))
  (refine Ops_lit0 (by first | exact on_none | exact on_guard rfl rfl) rfl ?_; intro w2 b2 n_b2 o_b2)
  have ne_b1_b2 : b1 ≠ b2 := Nat.ne_of_lt (Nat.lt_of_lt_of_le k_b1.lt n_b2.ge)
  replace k_b1 := k_b1.ext n_b2.ext
  have o2 := (o_b2).mono g1
  have e2 := n_b1.ext.trans n_b2.ext
  repeat (first | (apply Ops_q; (case hon => (first | exact on_none | exact on_guard rfl rfl)); (case hd => rfl); (case hq => exact YlA)) | refine V_seq ?_ | refine V_block ?_ | refine V_region ?_ | refine V_region_still rfl (by kernel_rfl) (by kernel_rfl) ?_ | refine V_skip ?_ | refine V_ret ?_ | refine V_exit ?_ | refine V_true rfl ?_ | refine V_false rfl ?_ | refine then_normal ?_ | refine then_ret ?_ | refine then_exit ?_ | refine block_normal ?_ | refine block_ret ?_ | refine block_hit ?_ | refine block_miss rfl ?_ | refine Ops_end rfl ?_ | (refine Ops_off ?_ rfl ?_; focus (first | exact off_guard rfl rfl rfl | exact off_undef rfl rfl)) | (apply Ops_q0; (case hon => exact on_none); (case hq => exact Yl_assign rfl)))
  (refine Ops_alloc (by first | exact on_none | exact on_guard rfl rfl) rfl ?_; intro w3 b3 n_b3; have k_b3 := n_b3.blk)
  have ne_b1_b3 : b1 ≠ b3 := Nat.ne_of_lt (Nat.lt_of_lt_of_le k_b1.lt n_b3.ge)
  replace k_b1 := k_b1.ext n_b3.ext
  have hv3 : b2 ≠ b3 := fun e => by have := o2.lt (b := b2) rfl; have := n_b3.ge; omega
  replace o2 := o2.ext n_b3.ext
  repeat (first | (apply Ops_q; (case hon => (first | exact on_none | exact on_guard rfl rfl)); (case hd => rfl); (case hq => exact YlA)) | refine V_seq ?_ | refine V_block ?_ | refine V_region ?_ | refine V_region_still rfl (by kernel_rfl) (by kernel_rfl) ?_ | refine V_skip ?_ | refine V_ret ?_ | refine V_exit ?_ | refine V_true rfl ?_ | refine V_false rfl ?_ | refine then_normal ?_ | refine then_ret ?_ | refine then_exit ?_ | refine block_normal ?_ | refine block_ret ?_ | refine block_hit ?_ | refine block_miss rfl ?_ | refine Ops_end rfl ?_ | (refine Ops_off ?_ rfl ?_; focus (first | exact off_guard rfl rfl rfl | exact off_undef rfl rfl)) | (apply Ops_q0; (case hon => exact on_none); (case hq => exact Yl_assign rfl)))
  (refine Ops_store (by first | exact on_none | exact on_guard rfl rfl) rfl rfl (by assumption) (by first | rfl | exact OneAll.h) ?_; intro w4 u_w4; have k_b3 := u_w4.blk)
  replace k_b1 := u_w4.keep k_b1 ne_b1_b3
  replace o2 := o2.upd u_w4 (fun e => hv3 (by cases e; rfl))
  have e4 := u_w4.below (e2.trans n_b3.ext) (Nat.le_trans e2.size n_b3.ge)
  have hb3w : w.heap.size ≤ b3 := Nat.le_trans e2.size n_b3.ge
  have hb1w := n_b1.ge
  have hb2w : w1.heap.size ≤ b2 := n_b2.ge
  have k3 : Blk w4 b3 31 (cand router ad0 pr d0 bd0).cells := k_b3
  repeat (first | (apply Ops_q; (case hon => (first | exact on_none | exact on_guard rfl rfl)); (case hd => rfl); (case hq => exact YlA)) | refine V_seq ?_ | refine V_block ?_ | refine V_region ?_ | refine V_region_still rfl (by kernel_rfl) (by kernel_rfl) ?_ | refine V_skip ?_ | refine V_ret ?_ | refine V_exit ?_ | refine V_true rfl ?_ | refine V_false rfl ?_ | refine then_normal ?_ | refine then_ret ?_ | refine then_exit ?_ | refine block_normal ?_ | refine block_ret ?_ | refine block_hit ?_ | refine block_miss rfl ?_ | refine Ops_end rfl ?_ | (refine Ops_off ?_ rfl ?_; focus (first | exact off_guard rfl rfl rfl | exact off_undef rfl rfl)) | (apply Ops_q0; (case hon => exact on_none); (case hq => exact Yl_assign rfl)))
  refine V_loop (fun s : Nat × Value × Bool × List Nf => [(8, .int .i64 s.1), (5, s.2.1), (6, .bool s.2.2.1), (2, .pointer (some ⟨b1, 0, none⟩)), (1, .int .u32 router), (7, .pointer (some ⟨b3, 0, none⟩))])
    (fun s w' => Ext w w' ∧ s.1 ≤ L.length ∧ Own w' w.heap.size 31 15 s.2.1 (s.2.2.2.map Nf.cells) ∧ s.2.1.ownBlock ≠ some b1 ∧ s.2.1.ownBlock ≠ some b3 ∧ Blk w' b1 39 [.int .i64 k0, .int .u32 pa, .int .i64 pl, .int .u32 ad0, .int .u32 ar, .int .i64 co, .int .i64 pr, .int .i64 he, .int .i64 de, .bool up, .int .u32 d0, .int .u32 bd0, .int .i64 el, .int .i64 nh, .slice ao L.length c] ∧ Blk w' b3 31 (cand router ad0 pr d0 bd0).cells ∧
      s.2.2.2 ++ rl router (cand router ad0 pr d0 bd0) s.2.2.1 (L.drop s.1) = rl router (cand router ad0 pr d0 bd0) (decide (pr ≤ 0)) L) (fun s => L.length - s.1) (0, .slice (some ⟨b2, 0, none⟩) 0 0, decide (pr ≤ 0), []) (by repeat (first | exact trivial | refine ⟨rfl, ?_⟩))
    ⟨e4, Nat.zero_le _, o2, (fun e => ne_b1_b2 (by cases e; rfl)), (fun e => hv3 (by cases e; rfl)), k_b1, k3, rfl⟩ ?_
  clear k_b1 k3 k_b3 o2 e4 n_b3 n_b2 o_b2
  rintro ⟨k, v, done, R⟩ w5 ⟨e5, hk, hO, hv1, hv3, k_b1, k_b3, hR⟩
  dsimp only at hk hO hv1 hv3 hR ⊢
  have hRm : (R.map Nf.cells).length = R.length := List.length_map ..
  repeat (first | (apply Ops_q; (case hon => (first | exact on_none | exact on_guard rfl rfl)); (case hd => rfl); (case hq => exact YlA)) | refine V_seq ?_ | refine V_block ?_ | refine V_region ?_ | refine V_region_still rfl (by kernel_rfl) (by kernel_rfl) ?_ | refine V_skip ?_ | refine V_ret ?_ | refine V_exit ?_ | refine V_true rfl ?_ | refine V_false rfl ?_ | refine then_normal ?_ | refine then_ret ?_ | refine then_exit ?_ | refine block_normal ?_ | refine block_ret ?_ | refine block_hit ?_ | refine block_miss rfl ?_ | refine Ops_end rfl ?_ | (refine Ops_off ?_ rfl ?_; focus (first | exact off_guard rfl rfl rfl | exact off_undef rfl rfl)) | (apply Ops_q0; (case hon => exact on_none); (case hq => exact Yl_assign rfl)))
  refine V_cond rfl (fun hg => ?_) (fun hg => ?_)
  · replace hg := of_decide_eq_true hg
    have hkl : k < L.length := by omega
    obtain ⟨x, hx⟩ : ∃ x, L[k]? = some x := ⟨_, List.getElem?_eq_getElem hkl⟩
    obtain ⟨ad, rfl, hc⟩ := hL.at hx
    have hdrop : L.drop k = x :: L.drop (k + 1) := by
      rw [List.drop_eq_getElem_cons hkl]
      rw [List.getElem?_eq_getElem hkl] at hx
      cases hx; rfl
    rw [hdrop, rl] at hR
    replace hc := hc.ext e5
    repeat (first | (apply Ops_q; (case hon => (first | exact on_none | exact on_guard rfl rfl)); (case hd => rfl); (case hq => exact YlA)) | refine V_seq ?_ | refine V_block ?_ | refine V_region ?_ | refine V_region_still rfl (by kernel_rfl) (by kernel_rfl) ?_ | refine V_skip ?_ | refine V_ret ?_ | refine V_exit ?_ | refine V_true rfl ?_ | refine V_false rfl ?_ | refine then_normal ?_ | refine then_ret ?_ | refine then_exit ?_ | refine block_normal ?_ | refine block_ret ?_ | refine block_hit ?_ | refine block_miss rfl ?_ | refine Ops_end rfl ?_ | (refine Ops_off ?_ rfl ?_; focus (first | exact off_guard rfl rfl rfl | exact off_undef rfl rfl)) | (apply Ops_q0; (case hon => exact on_none); (case hq => exact Yl_assign rfl)))
    (apply Ops_q; (case hon => (first | exact on_none | exact on_guard rfl rfl)); (case hd => rfl); (case hq => exact Yl_indexS (j := k) rfl rfl (by omega)))
    repeat (first | (apply Ops_q; (case hon => (first | exact on_none | exact on_guard rfl rfl)); (case hd => rfl); (case hq => exact YlA)) | refine V_seq ?_ | refine V_block ?_ | refine V_region ?_ | refine V_region_still rfl (by kernel_rfl) (by kernel_rfl) ?_ | refine V_skip ?_ | refine V_ret ?_ | refine V_exit ?_ | refine V_true rfl ?_ | refine V_false rfl ?_ | refine then_normal ?_ | refine then_ret ?_ | refine then_exit ?_ | refine block_normal ?_ | refine block_ret ?_ | refine block_hit ?_ | refine block_miss rfl ?_ | refine Ops_end rfl ?_ | (refine Ops_off ?_ rfl ?_; focus (first | exact off_guard rfl rfl rfl | exact off_undef rfl rfl)) | (apply Ops_q0; (case hon => exact on_none); (case hq => exact Yl_assign rfl)))
    (refine Ops_alloc (by first | exact on_none | exact on_guard rfl rfl) rfl ?_; intro w6 b6 n_b6; have k_b6 := n_b6.blk)
    have ne_b1_b6 : b1 ≠ b6 := Nat.ne_of_lt (Nat.lt_of_lt_of_le k_b1.lt n_b6.ge)
    have ne_b3_b6 : b3 ≠ b6 := Nat.ne_of_lt (Nat.lt_of_lt_of_le k_b3.lt n_b6.ge)
    replace k_b1 := k_b1.ext n_b6.ext; replace k_b3 := k_b3.ext n_b6.ext
    have hv6 : v.ownBlock ≠ some b6 := fun e => by have := hO.lt e; have := n_b6.ge; omega
    have g6 := n_b6.ge
    have g5 := e5.size
    repeat (first | (apply Ops_q; (case hon => (first | exact on_none | exact on_guard rfl rfl)); (case hd => rfl); (case hq => exact YlA)) | refine V_seq ?_ | refine V_block ?_ | refine V_region ?_ | refine V_region_still rfl (by kernel_rfl) (by kernel_rfl) ?_ | refine V_skip ?_ | refine V_ret ?_ | refine V_exit ?_ | refine V_true rfl ?_ | refine V_false rfl ?_ | refine then_normal ?_ | refine then_ret ?_ | refine then_exit ?_ | refine block_normal ?_ | refine block_ret ?_ | refine block_hit ?_ | refine block_miss rfl ?_ | refine Ops_end rfl ?_ | (refine Ops_off ?_ rfl ?_; focus (first | exact off_guard rfl rfl rfl | exact off_undef rfl rfl)) | (apply Ops_q0; (case hon => exact on_none); (case hq => exact Yl_assign rfl)))
    (refine Ops_store (by first | exact on_none | exact on_guard rfl rfl) rfl rfl (by assumption) (by first | rfl | exact OneAll.h) ?_; intro w7 u_w7; have k_b6 := u_w7.blk)
    replace k_b1 := u_w7.keep k_b1 ne_b1_b6; replace k_b3 := u_w7.keep k_b3 ne_b3_b6
    have e7 : Ext w w7 := u_w7.below (e5.trans n_b6.ext) (by omega)
    replace hO := (hO.ext n_b6.ext).upd u_w7 hv6
    clear n_b6 u_w7 e5
    repeat (first | (apply Ops_q; (case hon => (first | exact on_none | exact on_guard rfl rfl)); (case hd => rfl); (case hq => exact YlA)) | refine V_seq ?_ | refine V_block ?_ | refine V_region ?_ | refine V_region_still rfl (by kernel_rfl) (by kernel_rfl) ?_ | refine V_skip ?_ | refine V_ret ?_ | refine V_exit ?_ | refine V_true rfl ?_ | refine V_false rfl ?_ | refine then_normal ?_ | refine then_ret ?_ | refine then_exit ?_ | refine block_normal ?_ | refine block_ret ?_ | refine block_hit ?_ | refine block_miss rfl ?_ | refine Ops_end rfl ?_ | (refine Ops_off ?_ rfl ?_; focus (first | exact off_guard rfl rfl rfl | exact off_undef rfl rfl)) | (apply Ops_q0; (case hon => exact on_none); (case hq => exact Yl_assign rfl)))
    refine Ops_meet [(52, .bool (!keepB router x)), (9, .pointer (some ⟨b6, 0, none⟩)), (8, .int .i64 k), (5, v), (6, .bool done), (2, .pointer (some ⟨b1, 0, none⟩)), (1, .int .u32 router), (7, .pointer (some ⟨b3, 0, none⟩))] ?_ ?_
    · refine Ops_split rfl rfl (fun h1 => ?_) (fun h1 => ?_)
      · have h1' := of_decide_eq_true h1
        repeat (first | (apply Ops_q; (case hon => (first | exact on_none | exact on_guard rfl rfl)); (case hd => rfl); (case hq => exact YlA)) | refine V_seq ?_ | refine V_block ?_ | refine V_region ?_ | refine V_region_still rfl (by kernel_rfl) (by kernel_rfl) ?_ | refine V_skip ?_ | refine V_ret ?_ | refine V_exit ?_ | refine V_true rfl ?_ | refine V_false rfl ?_ | refine then_normal ?_ | refine then_ret ?_ | refine then_exit ?_ | refine block_normal ?_ | refine block_ret ?_ | refine block_hit ?_ | refine block_miss rfl ?_ | refine Ops_end rfl ?_ | (refine Ops_off ?_ rfl ?_; focus (first | exact off_guard rfl rfl rfl | exact off_undef rfl rfl)) | (apply Ops_q0; (case hon => exact on_none); (case hq => exact Yl_assign rfl)))
        refine ⟨⟨?_, (by repeat (first | exact trivial | refine ⟨rfl, ?_⟩))⟩, rfl⟩
        rw [keepB, decide_eq_false (by omega : ¬2 ≤ x.st)]; exact rfl
      · have h1' := of_decide_eq_false h1
        repeat (first | (apply Ops_q; (case hon => (first | exact on_none | exact on_guard rfl rfl)); (case hd => rfl); (case hq => exact YlA)) | refine V_seq ?_ | refine V_block ?_ | refine V_region ?_ | refine V_region_still rfl (by kernel_rfl) (by kernel_rfl) ?_ | refine V_skip ?_ | refine V_ret ?_ | refine V_exit ?_ | refine V_true rfl ?_ | refine V_false rfl ?_ | refine then_normal ?_ | refine then_ret ?_ | refine then_exit ?_ | refine block_normal ?_ | refine block_ret ?_ | refine block_hit ?_ | refine block_miss rfl ?_ | refine Ops_end rfl ?_ | (refine Ops_off ?_ rfl ?_; focus (first | exact off_guard rfl rfl rfl | exact off_undef rfl rfl)) | (apply Ops_q0; (case hon => exact on_none); (case hq => exact Yl_assign rfl)))
        refine Ops_split rfl rfl (fun h2 => ?_) (fun h2 => ?_)
        · have h2' := of_decide_eq_true h2
          repeat (first | (apply Ops_q; (case hon => (first | exact on_none | exact on_guard rfl rfl)); (case hd => rfl); (case hq => exact YlA)) | refine V_seq ?_ | refine V_block ?_ | refine V_region ?_ | refine V_region_still rfl (by kernel_rfl) (by kernel_rfl) ?_ | refine V_skip ?_ | refine V_ret ?_ | refine V_exit ?_ | refine V_true rfl ?_ | refine V_false rfl ?_ | refine then_normal ?_ | refine then_ret ?_ | refine then_exit ?_ | refine block_normal ?_ | refine block_ret ?_ | refine block_hit ?_ | refine block_miss rfl ?_ | refine Ops_end rfl ?_ | (refine Ops_off ?_ rfl ?_; focus (first | exact off_guard rfl rfl rfl | exact off_undef rfl rfl)) | (apply Ops_q0; (case hon => exact on_none); (case hq => exact Yl_assign rfl)))
          refine ⟨⟨?_, (by repeat (first | exact trivial | refine ⟨rfl, ?_⟩))⟩, rfl⟩
          rw [keepB, decide_eq_true (by omega : 2 ≤ x.st), decide_eq_false (by omega : ¬0 < x.p)]; exact rfl
        · have h2' := of_decide_eq_false h2
          repeat (first | (apply Ops_q; (case hon => (first | exact on_none | exact on_guard rfl rfl)); (case hd => rfl); (case hq => exact YlA)) | refine V_seq ?_ | refine V_block ?_ | refine V_region ?_ | refine V_region_still rfl (by kernel_rfl) (by kernel_rfl) ?_ | refine V_skip ?_ | refine V_ret ?_ | refine V_exit ?_ | refine V_true rfl ?_ | refine V_false rfl ?_ | refine then_normal ?_ | refine then_ret ?_ | refine then_exit ?_ | refine block_normal ?_ | refine block_ret ?_ | refine block_hit ?_ | refine block_miss rfl ?_ | refine Ops_end rfl ?_ | (refine Ops_off ?_ rfl ?_; focus (first | exact off_guard rfl rfl rfl | exact off_undef rfl rfl)) | (apply Ops_q0; (case hon => exact on_none); (case hq => exact Yl_assign rfl)))
          refine ⟨⟨?_, (by repeat (first | exact trivial | refine ⟨rfl, ?_⟩))⟩, rfl⟩
          rw [keepB, decide_eq_true (by omega : 2 ≤ x.st), decide_eq_true (by omega : 0 < x.p), Bool.true_and, Bool.true_and, Bool.not_not]; exact rfl
    repeat (first | (apply Ops_q; (case hon => (first | exact on_none | exact on_guard rfl rfl)); (case hd => rfl); (case hq => exact YlA)) | refine V_seq ?_ | refine V_block ?_ | refine V_region ?_ | refine V_region_still rfl (by kernel_rfl) (by kernel_rfl) ?_ | refine V_skip ?_ | refine V_ret ?_ | refine V_exit ?_ | refine V_true rfl ?_ | refine V_false rfl ?_ | refine then_normal ?_ | refine then_ret ?_ | refine then_exit ?_ | refine block_normal ?_ | refine block_ret ?_ | refine block_hit ?_ | refine block_miss rfl ?_ | refine Ops_end rfl ?_ | (refine Ops_off ?_ rfl ?_; focus (first | exact off_guard rfl rfl rfl | exact off_undef rfl rfl)) | (apply Ops_q0; (case hon => exact on_none); (case hq => exact Yl_assign rfl)))
    refine V_cond rfl (fun h5 => ?_) (fun h5 => ?_)
    · have h6 : keepB router x = false := by simpa using h5
      rw [h6, if_neg Bool.false_ne_true] at hR
      repeat (first | (apply Ops_q; (case hon => (first | exact on_none | exact on_guard rfl rfl)); (case hd => rfl); (case hq => exact YlA)) | refine V_seq ?_ | refine V_block ?_ | refine V_region ?_ | refine V_region_still rfl (by kernel_rfl) (by kernel_rfl) ?_ | refine V_skip ?_ | refine V_ret ?_ | refine V_exit ?_ | refine V_true rfl ?_ | refine V_false rfl ?_ | refine then_normal ?_ | refine then_ret ?_ | refine then_exit ?_ | refine block_normal ?_ | refine block_ret ?_ | refine block_hit ?_ | refine block_miss rfl ?_ | refine Ops_end rfl ?_ | (refine Ops_off ?_ rfl ?_; focus (first | exact off_guard rfl rfl rfl | exact off_undef rfl rfl)) | (apply Ops_q0; (case hon => exact on_none); (case hq => exact Yl_assign rfl)))
      exact ⟨(k + 1, v, done, R), (by repeat (first | exact trivial | refine ⟨rfl, ?_⟩)), ⟨e7, hkl, hO, hv1, hv3, k_b1, k_b3, hR⟩, by simp only; omega⟩
    have h6 : keepB router x = true := by simpa using h5
    rw [if_pos h6] at hR
    repeat (first | (apply Ops_q; (case hon => (first | exact on_none | exact on_guard rfl rfl)); (case hd => rfl); (case hq => exact YlA)) | refine V_seq ?_ | refine V_block ?_ | refine V_region ?_ | refine V_region_still rfl (by kernel_rfl) (by kernel_rfl) ?_ | refine V_skip ?_ | refine V_ret ?_ | refine V_exit ?_ | refine V_true rfl ?_ | refine V_false rfl ?_ | refine then_normal ?_ | refine then_ret ?_ | refine then_exit ?_ | refine block_normal ?_ | refine block_ret ?_ | refine block_hit ?_ | refine block_miss rfl ?_ | refine Ops_end rfl ?_ | (refine Ops_off ?_ rfl ?_; focus (first | exact off_guard rfl rfl rfl | exact off_undef rfl rfl)) | (apply Ops_q0; (case hon => exact on_none); (case hq => exact Yl_assign rfl)))
    refine Ops_meet [(60, .bool (!done && decide (router < x.r))), (9, .pointer (some ⟨b6, 0, none⟩)), (8, .int .i64 k), (5, v), (6, .bool done), (2, .pointer (some ⟨b1, 0, none⟩)), (1, .int .u32 router), (7, .pointer (some ⟨b3, 0, none⟩))] ?_ ?_
    · cases done with
      | true =>
        repeat (first | (apply Ops_q; (case hon => (first | exact on_none | exact on_guard rfl rfl)); (case hd => rfl); (case hq => exact YlA)) | refine V_seq ?_ | refine V_block ?_ | refine V_region ?_ | refine V_region_still rfl (by kernel_rfl) (by kernel_rfl) ?_ | refine V_skip ?_ | refine V_ret ?_ | refine V_exit ?_ | refine V_true rfl ?_ | refine V_false rfl ?_ | refine then_normal ?_ | refine then_ret ?_ | refine then_exit ?_ | refine block_normal ?_ | refine block_ret ?_ | refine block_hit ?_ | refine block_miss rfl ?_ | refine Ops_end rfl ?_ | (refine Ops_off ?_ rfl ?_; focus (first | exact off_guard rfl rfl rfl | exact off_undef rfl rfl)) | (apply Ops_q0; (case hon => exact on_none); (case hq => exact Yl_assign rfl)))
        exact ⟨(by repeat (first | exact trivial | refine ⟨rfl, ?_⟩)), rfl⟩
      | false =>
        repeat (first | (apply Ops_q; (case hon => (first | exact on_none | exact on_guard rfl rfl)); (case hd => rfl); (case hq => exact YlA)) | refine V_seq ?_ | refine V_block ?_ | refine V_region ?_ | refine V_region_still rfl (by kernel_rfl) (by kernel_rfl) ?_ | refine V_skip ?_ | refine V_ret ?_ | refine V_exit ?_ | refine V_true rfl ?_ | refine V_false rfl ?_ | refine then_normal ?_ | refine then_ret ?_ | refine then_exit ?_ | refine block_normal ?_ | refine block_ret ?_ | refine block_hit ?_ | refine block_miss rfl ?_ | refine Ops_end rfl ?_ | (refine Ops_off ?_ rfl ?_; focus (first | exact off_guard rfl rfl rfl | exact off_undef rfl rfl)) | (apply Ops_q0; (case hon => exact on_none); (case hq => exact Yl_assign rfl)))
        exact ⟨(by repeat (first | exact trivial | refine ⟨rfl, ?_⟩)), rfl⟩
    repeat (first | (apply Ops_q; (case hon => (first | exact on_none | exact on_guard rfl rfl)); (case hd => rfl); (case hq => exact YlA)) | refine V_seq ?_ | refine V_block ?_ | refine V_region ?_ | refine V_region_still rfl (by kernel_rfl) (by kernel_rfl) ?_ | refine V_skip ?_ | refine V_ret ?_ | refine V_exit ?_ | refine V_true rfl ?_ | refine V_false rfl ?_ | refine then_normal ?_ | refine then_ret ?_ | refine then_exit ?_ | refine block_normal ?_ | refine block_ret ?_ | refine block_hit ?_ | refine block_miss rfl ?_ | refine Ops_end rfl ?_ | (refine Ops_off ?_ rfl ?_; focus (first | exact off_guard rfl rfl rfl | exact off_undef rfl rfl)) | (apply Ops_q0; (case hon => exact on_none); (case hq => exact Yl_assign rfl)))
    refine V_meet1 (fun s : Value × Bool × List Nf => [(5, s.1), (6, .bool s.2.1), (9, .pointer (some ⟨b6, 0, none⟩)), (8, .int .i64 k), (2, .pointer (some ⟨b1, 0, none⟩)), (1, .int .u32 router), (7, .pointer (some ⟨b3, 0, none⟩))])
      (fun s w' => Ext w w' ∧ Own w' w.heap.size 31 15 s.1 (s.2.2.map Nf.cells) ∧ s.1.ownBlock ≠ some b1 ∧ s.1.ownBlock ≠ some b3 ∧ s.1.ownBlock ≠ some b6 ∧ Blk w' b1 39 [.int .i64 k0, .int .u32 pa, .int .i64 pl, .int .u32 ad0, .int .u32 ar, .int .i64 co, .int .i64 pr, .int .i64 he, .int .i64 de, .bool up, .int .u32 d0, .int .u32 bd0, .int .i64 el, .int .i64 nh, .slice (some ad) L.length c] ∧ Blk w' b3 31 (cand router ad0 pr d0 bd0).cells ∧ Blk w' b6 31 x.cells ∧
        s.2.2 ++ x.says :: rl router (cand router ad0 pr d0 bd0) s.2.1 (L.drop (k + 1)) = rl router (cand router ad0 pr d0 bd0) (decide (pr ≤ 0)) L) ?_ ?_
    · refine V_cond rfl (fun h7 => ?_) (fun h7 => ?_)
      · rw [if_pos h7] at hR
        have hlen := congrArg List.length hR
        rw [List.length_append, List.length_cons, List.length_cons] at hlen
        repeat (first | (apply Ops_q; (case hon => (first | exact on_none | exact on_guard rfl rfl)); (case hd => rfl); (case hq => exact YlA)) | refine V_seq ?_ | refine V_block ?_ | refine V_region ?_ | refine V_region_still rfl (by kernel_rfl) (by kernel_rfl) ?_ | refine V_skip ?_ | refine V_ret ?_ | refine V_exit ?_ | refine V_true rfl ?_ | refine V_false rfl ?_ | refine then_normal ?_ | refine then_ret ?_ | refine then_exit ?_ | refine block_normal ?_ | refine block_ret ?_ | refine block_hit ?_ | refine block_miss rfl ?_ | refine Ops_end rfl ?_ | (refine Ops_off ?_ rfl ?_; focus (first | exact off_guard rfl rfl rfl | exact off_undef rfl rfl)) | (apply Ops_q0; (case hon => exact on_none); (case hq => exact Yl_assign rfl)))
        (refine Ops_lit (by first | exact on_none | exact on_guard rfl rfl) rfl rfl rfl ?_; intro w8 b8 n_b8; have k_b8 := n_b8.blk)
        have o8 := hO.ext n_b8.ext
        replace k_b1 := k_b1.ext n_b8.ext; replace k_b3 := k_b3.ext n_b8.ext; replace k_b6 := k_b6.ext n_b8.ext
        have e8 := e7.trans n_b8.ext
        repeat (first | (apply Ops_q; (case hon => (first | exact on_none | exact on_guard rfl rfl)); (case hd => rfl); (case hq => exact YlA)) | refine V_seq ?_ | refine V_block ?_ | refine V_region ?_ | refine V_region_still rfl (by kernel_rfl) (by kernel_rfl) ?_ | refine V_skip ?_ | refine V_ret ?_ | refine V_exit ?_ | refine V_true rfl ?_ | refine V_false rfl ?_ | refine then_normal ?_ | refine then_ret ?_ | refine then_exit ?_ | refine block_normal ?_ | refine block_ret ?_ | refine block_hit ?_ | refine block_miss rfl ?_ | refine Ops_end rfl ?_ | (refine Ops_off ?_ rfl ?_; focus (first | exact off_guard rfl rfl rfl | exact off_undef rfl rfl)) | (apply Ops_q0; (case hon => exact on_none); (case hq => exact Yl_assign rfl)))
        have hroom : (R.map Nf.cells).length + 1 ≤ L.length + 1 := by omega
        have hn1 : (L.length + 1) * 168 ≤ 140737488355328 := by omega
        (refine Ops_append1 (by first | exact on_none | exact on_guard rfl rfl) rfl rfl rfl rfl o8 k_b8.cells inferInstance inferInstance (Nat.le_trans (Nat.mul_le_mul_right 168 hroom) hn1) rfl e8.size ?_; intro v' w9 o_v' g_w9 d_v')
        have e9 := grow_below e8 g_w9 (fun b hb => o8.ge hb)
        repeat (first | (apply Ops_q; (case hon => (first | exact on_none | exact on_guard rfl rfl)); (case hd => rfl); (case hq => exact YlA)) | refine V_seq ?_ | refine V_block ?_ | refine V_region ?_ | refine V_region_still rfl (by kernel_rfl) (by kernel_rfl) ?_ | refine V_skip ?_ | refine V_ret ?_ | refine V_exit ?_ | refine V_true rfl ?_ | refine V_false rfl ?_ | refine then_normal ?_ | refine then_ret ?_ | refine then_exit ?_ | refine block_normal ?_ | refine block_ret ?_ | refine block_hit ?_ | refine block_miss rfl ?_ | refine Ops_end rfl ?_ | (refine Ops_off ?_ rfl ?_; focus (first | exact off_guard rfl rfl rfl | exact off_undef rfl rfl)) | (apply Ops_q0; (case hon => exact on_none); (case hq => exact Yl_assign rfl)))
        refine ⟨(v', true, R ++ [cand router ad0 pr d0 bd0]), (by repeat (first | exact trivial | refine ⟨rfl, ?_⟩)), e9, ?_, dis_app d_v' hv1 k_b1.lt, dis_app d_v' hv3 k_b3.lt, dis_app d_v' hv6 k_b6.lt, grow_blk g_w9 k_b1 (fun e => hv1 e.symm), grow_blk g_w9 k_b3 (fun e => hv3 e.symm), grow_blk g_w9 k_b6 (fun e => hv6 e.symm), ?_⟩
        · rw [List.map_append]; exact o_v'
        · rw [List.append_assoc]; exact hR
      · rw [if_neg (by rw [h7]; exact Bool.false_ne_true)] at hR
        repeat (first | (apply Ops_q; (case hon => (first | exact on_none | exact on_guard rfl rfl)); (case hd => rfl); (case hq => exact YlA)) | refine V_seq ?_ | refine V_block ?_ | refine V_region ?_ | refine V_region_still rfl (by kernel_rfl) (by kernel_rfl) ?_ | refine V_skip ?_ | refine V_ret ?_ | refine V_exit ?_ | refine V_true rfl ?_ | refine V_false rfl ?_ | refine then_normal ?_ | refine then_ret ?_ | refine then_exit ?_ | refine block_normal ?_ | refine block_ret ?_ | refine block_hit ?_ | refine block_miss rfl ?_ | refine Ops_end rfl ?_ | (refine Ops_off ?_ rfl ?_; focus (first | exact off_guard rfl rfl rfl | exact off_undef rfl rfl)) | (apply Ops_q0; (case hon => exact on_none); (case hq => exact Yl_assign rfl)))
        exact ⟨(v, done, R), (by repeat (first | exact trivial | refine ⟨rfl, ?_⟩)), e7, hO, hv1, hv3, hv6, k_b1, k_b3, k_b6, hR⟩
    clear hR hO hv1 hv3 hv6 k_b1 k_b3 k_b6 e7 hRm
    rintro ⟨v, done, R⟩ w8 ⟨e8, hO, hv1, hv3, hv6, k_b1, k_b3, k_b6, hR⟩
    dsimp only at hO hv1 hv3 hv6 hR ⊢
    have hRm : (R.map Nf.cells).length = R.length := List.length_map ..
    have hlen := congrArg List.length hR
    rw [List.length_append, List.length_cons] at hlen
    repeat (first | (apply Ops_q; (case hon => (first | exact on_none | exact on_guard rfl rfl)); (case hd => rfl); (case hq => exact YlA)) | refine V_seq ?_ | refine V_block ?_ | refine V_region ?_ | refine V_region_still rfl (by kernel_rfl) (by kernel_rfl) ?_ | refine V_skip ?_ | refine V_ret ?_ | refine V_exit ?_ | refine V_true rfl ?_ | refine V_false rfl ?_ | refine then_normal ?_ | refine then_ret ?_ | refine then_exit ?_ | refine block_normal ?_ | refine block_ret ?_ | refine block_hit ?_ | refine block_miss rfl ?_ | refine Ops_end rfl ?_ | (refine Ops_off ?_ rfl ?_; focus (first | exact off_guard rfl rfl rfl | exact off_undef rfl rfl)) | (apply Ops_q0; (case hon => exact on_none); (case hq => exact Yl_assign rfl)))
    (refine Ops_lit (by first | exact on_none | exact on_guard rfl rfl) rfl rfl rfl ?_; intro w9 b9 n_b9; have k_b9 := n_b9.blk)
    have o9 := hO.ext n_b9.ext
    replace k_b1 := k_b1.ext n_b9.ext; replace k_b3 := k_b3.ext n_b9.ext
    have e9 := e8.trans n_b9.ext
    repeat (first | (apply Ops_q; (case hon => (first | exact on_none | exact on_guard rfl rfl)); (case hd => rfl); (case hq => exact YlA)) | refine V_seq ?_ | refine V_block ?_ | refine V_region ?_ | refine V_region_still rfl (by kernel_rfl) (by kernel_rfl) ?_ | refine V_skip ?_ | refine V_ret ?_ | refine V_exit ?_ | refine V_true rfl ?_ | refine V_false rfl ?_ | refine then_normal ?_ | refine then_ret ?_ | refine then_exit ?_ | refine block_normal ?_ | refine block_ret ?_ | refine block_hit ?_ | refine block_miss rfl ?_ | refine Ops_end rfl ?_ | (refine Ops_off ?_ rfl ?_; focus (first | exact off_guard rfl rfl rfl | exact off_undef rfl rfl)) | (apply Ops_q0; (case hon => exact on_none); (case hq => exact Yl_assign rfl)))
    have hroom : (R.map Nf.cells).length + 1 ≤ L.length + 1 := by omega
    have hn1 : (L.length + 1) * 168 ≤ 140737488355328 := by omega
    (refine Ops_append1 (by first | exact on_none | exact on_guard rfl rfl) rfl rfl rfl rfl o9 k_b9.cells inferInstance inferInstance (Nat.le_trans (Nat.mul_le_mul_right 168 hroom) hn1) rfl e9.size ?_; intro v' w10 o_v' g_w10 d_v')
    have e10 := grow_below e9 g_w10 (fun b hb => o9.ge hb)
    repeat (first | (apply Ops_q; (case hon => (first | exact on_none | exact on_guard rfl rfl)); (case hd => rfl); (case hq => exact YlA)) | refine V_seq ?_ | refine V_block ?_ | refine V_region ?_ | refine V_region_still rfl (by kernel_rfl) (by kernel_rfl) ?_ | refine V_skip ?_ | refine V_ret ?_ | refine V_exit ?_ | refine V_true rfl ?_ | refine V_false rfl ?_ | refine then_normal ?_ | refine then_ret ?_ | refine then_exit ?_ | refine block_normal ?_ | refine block_ret ?_ | refine block_hit ?_ | refine block_miss rfl ?_ | refine Ops_end rfl ?_ | (refine Ops_off ?_ rfl ?_; focus (first | exact off_guard rfl rfl rfl | exact off_undef rfl rfl)) | (apply Ops_q0; (case hon => exact on_none); (case hq => exact Yl_assign rfl)))
    refine ⟨(k + 1, v', done, R ++ [x.says]), (by repeat (first | exact trivial | refine ⟨rfl, ?_⟩)), ⟨e10, hkl, ?_, dis_app d_v' hv1 k_b1.lt, dis_app d_v' hv3 k_b3.lt, grow_blk g_w10 k_b1 (fun e => hv1 e.symm), grow_blk g_w10 k_b3 (fun e => hv3 e.symm), ?_⟩, by simp only; omega⟩
    · dsimp only
      rw [List.map_append]; exact o_v'
    · rw [List.append_assoc]; exact hR
  replace hg := of_decide_eq_false hg
  obtain rfl : k = L.length := by omega
  rw [List.drop_length, rl] at hR
  repeat (first | (apply Ops_q; (case hon => (first | exact on_none | exact on_guard rfl rfl)); (case hd => rfl); (case hq => exact YlA)) | refine V_seq ?_ | refine V_block ?_ | refine V_region ?_ | refine V_region_still rfl (by kernel_rfl) (by kernel_rfl) ?_ | refine V_skip ?_ | refine V_ret ?_ | refine V_exit ?_ | refine V_true rfl ?_ | refine V_false rfl ?_ | refine then_normal ?_ | refine then_ret ?_ | refine then_exit ?_ | refine block_normal ?_ | refine block_ret ?_ | refine block_hit ?_ | refine block_miss rfl ?_ | refine Ops_end rfl ?_ | (refine Ops_off ?_ rfl ?_; focus (first | exact off_guard rfl rfl rfl | exact off_undef rfl rfl)) | (apply Ops_q0; (case hon => exact on_none); (case hq => exact Yl_assign rfl)))
  cases done with
  | true =>
    rw [if_pos rfl, List.append_nil] at hR
    repeat (first | (apply Ops_q; (case hon => (first | exact on_none | exact on_guard rfl rfl)); (case hd => rfl); (case hq => exact YlA)) | refine V_seq ?_ | refine V_block ?_ | refine V_region ?_ | refine V_region_still rfl (by kernel_rfl) (by kernel_rfl) ?_ | refine V_skip ?_ | refine V_ret ?_ | refine V_exit ?_ | refine V_true rfl ?_ | refine V_false rfl ?_ | refine then_normal ?_ | refine then_ret ?_ | refine then_exit ?_ | refine block_normal ?_ | refine block_ret ?_ | refine block_hit ?_ | refine block_miss rfl ?_ | refine Ops_end rfl ?_ | (refine Ops_off ?_ rfl ?_; focus (first | exact off_guard rfl rfl rfl | exact off_undef rfl rfl)) | (apply Ops_q0; (case hon => exact on_none); (case hq => exact Yl_assign rfl)))
    refine ret1 (by first | exact .inl rfl | exact .inr rfl) rfl rfl ?_
    exact Gives_mk (fun w' he => by rw [← hR]; exact hO.ext he) e5
  | false =>
    rw [if_neg Bool.false_ne_true] at hR
    have hlen := congrArg List.length hR
    rw [List.length_append] at hlen
    have h1c : [cand router ad0 pr d0 bd0].length = 1 := rfl
    repeat (first | (apply Ops_q; (case hon => (first | exact on_none | exact on_guard rfl rfl)); (case hd => rfl); (case hq => exact YlA)) | refine V_seq ?_ | refine V_block ?_ | refine V_region ?_ | refine V_region_still rfl (by kernel_rfl) (by kernel_rfl) ?_ | refine V_skip ?_ | refine V_ret ?_ | refine V_exit ?_ | refine V_true rfl ?_ | refine V_false rfl ?_ | refine then_normal ?_ | refine then_ret ?_ | refine then_exit ?_ | refine block_normal ?_ | refine block_ret ?_ | refine block_hit ?_ | refine block_miss rfl ?_ | refine Ops_end rfl ?_ | (refine Ops_off ?_ rfl ?_; focus (first | exact off_guard rfl rfl rfl | exact off_undef rfl rfl)) | (apply Ops_q0; (case hon => exact on_none); (case hq => exact Yl_assign rfl)))
    (refine Ops_lit (by first | exact on_none | exact on_guard rfl rfl) rfl rfl rfl ?_; intro w9 b9 n_b9; have k_b9 := n_b9.blk)
    have o9 := hO.ext n_b9.ext
    have e9 := e5.trans n_b9.ext
    repeat (first | (apply Ops_q; (case hon => (first | exact on_none | exact on_guard rfl rfl)); (case hd => rfl); (case hq => exact YlA)) | refine V_seq ?_ | refine V_block ?_ | refine V_region ?_ | refine V_region_still rfl (by kernel_rfl) (by kernel_rfl) ?_ | refine V_skip ?_ | refine V_ret ?_ | refine V_exit ?_ | refine V_true rfl ?_ | refine V_false rfl ?_ | refine then_normal ?_ | refine then_ret ?_ | refine then_exit ?_ | refine block_normal ?_ | refine block_ret ?_ | refine block_hit ?_ | refine block_miss rfl ?_ | refine Ops_end rfl ?_ | (refine Ops_off ?_ rfl ?_; focus (first | exact off_guard rfl rfl rfl | exact off_undef rfl rfl)) | (apply Ops_q0; (case hon => exact on_none); (case hq => exact Yl_assign rfl)))
    have hroom : (R.map Nf.cells).length + 1 ≤ L.length + 1 := by omega
    have hn1 : (L.length + 1) * 168 ≤ 140737488355328 := by omega
    (refine Ops_append1 (by first | exact on_none | exact on_guard rfl rfl) rfl rfl rfl rfl o9 k_b9.cells inferInstance inferInstance (Nat.le_trans (Nat.mul_le_mul_right 168 hroom) hn1) rfl e9.size ?_; intro v' w10 o_v' g_w10 d_v')
    have e10 := grow_below e9 g_w10 (fun b hb => o9.ge hb)
    repeat (first | (apply Ops_q; (case hon => (first | exact on_none | exact on_guard rfl rfl)); (case hd => rfl); (case hq => exact YlA)) | refine V_seq ?_ | refine V_block ?_ | refine V_region ?_ | refine V_region_still rfl (by kernel_rfl) (by kernel_rfl) ?_ | refine V_skip ?_ | refine V_ret ?_ | refine V_exit ?_ | refine V_true rfl ?_ | refine V_false rfl ?_ | refine then_normal ?_ | refine then_ret ?_ | refine then_exit ?_ | refine block_normal ?_ | refine block_ret ?_ | refine block_hit ?_ | refine block_miss rfl ?_ | refine Ops_end rfl ?_ | (refine Ops_off ?_ rfl ?_; focus (first | exact off_guard rfl rfl rfl | exact off_undef rfl rfl)) | (apply Ops_q0; (case hon => exact on_none); (case hq => exact Yl_assign rfl)))
    refine ret1 (by first | exact .inl rfl | exact .inr rfl) rfl rfl ?_
    refine Gives_mk (fun w' he => ?_) e10
    rw [← hR, List.map_append]; exact o_v'.ext he
end Go.Proofs.Ytfakgiikobajnaa

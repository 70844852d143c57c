/-
  Layer 27 (elect): the walk of Run.
  Conditions: the lists are not too long for a machine.
-/
import Derived.Test.YtfakgiikobajnaaElRun
import Derived.Test.YtfakgiikobajnaaElKL
namespace Go.Proofs.Ytfakgiikobajnaa
open Go.RowKit

/-- The copies of the neighbors in memory, by their block. -/
structure NDat (w : World) (base g n cap : Nat) (M : List Nf) : Prop where
  own : Own w base 31 15 (.slice (some ⟨g, 0, none⟩) n cap) (M.map Nf.cells)
  len : M.length = n
theorem NDat.ext {w w1 : World} {base g n cap : Nat} {M : List Nf} (h : NDat w base g n cap M) (he : Ext w w1) : NDat w1 base g n cap M := ⟨h.own.ext he, h.len⟩
theorem NDat.at {w : World} {base g n cap : Nat} {M : List Nf} (h : NDat w base g n cap M) {k : Nat} {x : Nf} (hx : M[k]? = some x) : Cells w ((⟨g, 0, none⟩ : Addr).add (k * 15)) x.cells := by
  obtain ⟨ao, c, hv, hA⟩ := h.own.slice
  obtain ⟨ad, h1, h2⟩ := hA k x.cells (by rw [List.getElem?_map, hx]; rfl)
  injection hv with e1 e2 e3
  rw [h1] at e1
  cases e1; exact h2
section
variable {P : Program} {N : Nat} {ops : Array Oper} {K : Env → World → Prop} {m : Env} {w : World} {rest : List Oper} {ty : TypeId} {pos : String} {after : Array Edge} {gd : Option (Nat × Bool)}
theorem Ops_storeN {t : TypeId} {x y : Operand} {base b0 g n cap i f : Nat} {p : Addr} {u : Value} {z : Nf} (z' : Nf) {M : List Nf} [hs : TSize P t 1 b0] (hon : On N ops m ⟨none, .store t x y, ty, pos, after, gd⟩)
    (hx : ev m x = some (.pointer (some p))) (hy : ev m y = some u) (hp : p = ((⟨g, 0, none⟩ : Addr).add (i * 15)).add f) (hD : NDat w base g n cap M) (hi : M[i]? = some z) (hz : z.cells.set f u = z'.cells) (hf : f < 15) [hu : TCells u [u]] (h1 : u.oneCell' = true)
    (h : ∀ w1, NDat w1 base g n cap (M.set i z') → w.grownBy w1 (some g) → Ops P N ops false K rest m w1) : Ops P N ops false K (⟨none, .store t x y, ty, pos, after, gd⟩ :: rest) m w := by
  obtain ⟨o, hl⟩ := hD
  subst hl
  have hm : (M.map Nf.cells).length = M.length := List.length_map ..
  refine Ops_storeOwn (i := i) (f := f) (xi := z.cells) (L := M.map Nf.cells) (base := base) (g := g) (cap := cap) (n0 := 15) hon hx hy (by rw [hp, add_blk, add_blk, Nat.zero_add]) (by rw [hm]; exact o) (by rw [List.getElem?_map, hi]; rfl) hf h1 (fun w1 o1 g1 => h w1 ⟨?_, List.length_set ..⟩ g1)
  rw [List.map_set, ← hz]
  rw [hm] at o1; exact o1
end
def Nf.strip (x : Nf) : Nf := { x with li := .none, se := .none, re := .none, ua := .none }
theorem rl_strip (router : Int) (own : Nf) : ∀ (L : List Nf) (done : Bool), rl router own done (L.map Nf.strip) = rl router own done L
  | [], _ => rfl
  | x :: r, done => by
    rw [List.map_cons, rl, rl, rl_strip router own r true, rl_strip router own r done]
    rfl
/-- What Run makes of the state. -/
def runS (s : Ist) (router : Int) (L : List Nf) (nb : Sl) : Ist :=
  if s.up && decide (s.k = 2) then { s with d := (electP router ((rl router (s.own router) (decide (s.pr ≤ 0)) L).map Nf.nb)).1, b := (electP router ((rl router (s.own router) (decide (s.pr ≤ 0)) L).map Nf.nb)).2, el := 0, nb := nb } else { s with nb := nb }
set_option maxHeartbeats 4000000 in
theorem run_v (s : Ist) (router : Int) (L : List Nf) (w : World) (hL : Nfs w s.nb.ao L) (hln : s.nb.n = L.length) (hn : L.length * 168 ≤ 140737488351232) (hz : s.nb.ao = none → L = []) (hh : ∀ x ∈ L, HdsOk w x) (hsrt : L.Pairwise (fun x y => x.r < y.r)) :
    Calls Try.prog 18 #[s.val, .int .u32 router] w
      (Gives (fun r w' => ∃ (nb : Sl) (M : List Nf), r = (runS s router L nb).val ∧ Nfs w' nb.ao M ∧ nb.n = L.length ∧ M.length = L.length ∧ ∀ (k : Nat) (x y : Nf), L[k]? = some x → M[k]? = some y → SameN w' x y) w) := by
  obtain ⟨k0, pa, pl, ad0, ar, co, pr, he, de, up, d0, bd0, el, nh, ⟨ao, n, c⟩⟩ := s
  dsimp only at hL hln hz
  subst hln
  unfold Ist.val
  dsimp only
  refine V_enter (vs := [_, _]) Try.func18 rfl Try.ntmps18 (Nat.le_of_ble_eq_true rfl) ?_
  repeat (first | (apply Ops_q; (case hon => (first | exact on_none | exact on_guard rfl rfl)); (case hd => rfl); (case hq => exact YlA)) | refine V_seq ?_ | refine V_block ?_ | refine V_region ?_ | refine V_region_still rfl (by kernel_rfl) (by kernel_rfl) ?_ | refine V_skip ?_ | refine V_ret ?_ | refine V_exit ?_ | refine V_true rfl ?_ | refine V_false rfl ?_ | refine then_normal ?_ | refine then_ret ?_ | refine then_exit ?_ | refine block_normal ?_ | refine block_ret ?_ | refine block_hit ?_ | refine block_miss rfl ?_ | refine Ops_end rfl ?_ | (refine Ops_off ?_ rfl ?_; focus (first | exact off_guard rfl rfl rfl | exact off_undef rfl rfl)) | (apply Ops_q0; (case hon => exact on_none); (case hq => exact Yl_assign rfl)))
  (refine Ops_box (by first | exact on_none | exact on_guard rfl rfl) rfl rfl rfl ?_; intro w1 b1 n_b1; have k_b1 := n_b1.blk)
  repeat (first | (apply Ops_q; (case hon => (first | exact on_none | exact on_guard rfl rfl)); (case hd => rfl); (case hq => exact YlA)) | refine V_seq ?_ | refine V_block ?_ | refine V_region ?_ | refine V_region_still rfl (by kernel_rfl) (by kernel_rfl) ?_ | refine V_skip ?_ | refine V_ret ?_ | refine V_exit ?_ | refine V_true rfl ?_ | refine V_false rfl ?_ | refine then_normal ?_ | refine then_ret ?_ | refine then_exit ?_ | refine block_normal ?_ | refine block_ret ?_ | refine block_hit ?_ | refine block_miss rfl ?_ | refine Ops_end rfl ?_ | (refine Ops_off ?_ rfl ?_; focus (first | exact off_guard rfl rfl rfl | exact off_undef rfl rfl)) | (apply Ops_q0; (case hon => exact on_none); (case hq => exact Yl_assign rfl)))
  (refine Ops_alloc (by first | exact on_none | exact on_guard rfl rfl) rfl ?_; intro w2 b2 n_b2; have k_b2 := n_b2.blk)
  have ne_b1_b2 : b1 ≠ b2 := Nat.ne_of_lt (Nat.lt_of_lt_of_le k_b1.lt n_b2.ge)
  replace k_b1 := k_b1.ext n_b2.ext
  have e2 := n_b1.ext.trans n_b2.ext
  have hb1w := n_b1.ge
  have hb2w := n_b2.ge
  have hw1 := n_b1.ext.size
  have hw2 := n_b2.ext.size
  have hl1 := k_b1.lt
  have hl2 := k_b2.lt
  repeat (first | (apply Ops_q; (case hon => (first | exact on_none | exact on_guard rfl rfl)); (case hd => rfl); (case hq => exact YlA)) | refine V_seq ?_ | refine V_block ?_ | refine V_region ?_ | refine V_region_still rfl (by kernel_rfl) (by kernel_rfl) ?_ | refine V_skip ?_ | refine V_ret ?_ | refine V_exit ?_ | refine V_true rfl ?_ | refine V_false rfl ?_ | refine then_normal ?_ | refine then_ret ?_ | refine then_exit ?_ | refine block_normal ?_ | refine block_ret ?_ | refine block_hit ?_ | refine block_miss rfl ?_ | refine Ops_end rfl ?_ | (refine Ops_off ?_ rfl ?_; focus (first | exact off_guard rfl rfl rfl | exact off_undef rfl rfl)) | (apply Ops_q0; (case hon => exact on_none); (case hq => exact Yl_assign rfl)))
  (refine Ops_callR (by first | exact on_none | exact on_guard rfl rfl) rfl rfl (fun w_ e_ => cloneN_v ao L c w_ (hL.ext (e2.trans e_)) hz hn) ?_; intro v w3 w0_ e0_ e1_ r_v; have e_w3 := e0_.trans e1_; have b_v := e0_.size; clear e0_ e1_)
  replace r_v := r_v.mono b_v
  replace k_b1 := k_b1.ext e_w3
  replace k_b2 := k_b2.ext e_w3
  have e3 := e2.trans e_w3
  obtain ⟨ao1, c1, rfl, _⟩ := r_v.slice
  rw [List.length_map] at r_v ⊢
  have hvg := fun b hb => r_v.ge (b := b) hb
  repeat (first | (apply Ops_q; (case hon => (first | exact on_none | exact on_guard rfl rfl)); (case hd => rfl); (case hq => exact YlA)) | refine V_seq ?_ | refine V_block ?_ | refine V_region ?_ | refine V_region_still rfl (by kernel_rfl) (by kernel_rfl) ?_ | refine V_skip ?_ | refine V_ret ?_ | refine V_exit ?_ | refine V_true rfl ?_ | refine V_false rfl ?_ | refine then_normal ?_ | refine then_ret ?_ | refine then_exit ?_ | refine block_normal ?_ | refine block_ret ?_ | refine block_hit ?_ | refine block_miss rfl ?_ | refine Ops_end rfl ?_ | (refine Ops_off ?_ rfl ?_; focus (first | exact off_guard rfl rfl rfl | exact off_undef rfl rfl)) | (apply Ops_q0; (case hon => exact on_none); (case hq => exact Yl_assign rfl)))
  (refine Ops_store (by first | exact on_none | exact on_guard rfl rfl) rfl rfl (by assumption) (by first | rfl | exact OneAll.h) ?_; intro w4 u_w4; have k_b1 := u_w4.blk)
  replace k_b2 := u_w4.keep k_b2 ne_b1_b2.symm
  have o4 := r_v.upd u_w4 (fun e => by have := hvg _ e; omega)
  have e4 := u_w4.below e3 hb1w
  clear r_v u_w4 e3 e_w3 n_b1 n_b2 e2
  repeat (first | (apply Ops_q; (case hon => (first | exact on_none | exact on_guard rfl rfl)); (case hd => rfl); (case hq => exact YlA)) | refine V_seq ?_ | refine V_block ?_ | refine V_region ?_ | refine V_region_still rfl (by kernel_rfl) (by kernel_rfl) ?_ | refine V_skip ?_ | refine V_ret ?_ | refine V_exit ?_ | refine V_true rfl ?_ | refine V_false rfl ?_ | refine then_normal ?_ | refine then_ret ?_ | refine then_exit ?_ | refine block_normal ?_ | refine block_ret ?_ | refine block_hit ?_ | refine block_miss rfl ?_ | refine Ops_end rfl ?_ | (refine Ops_off ?_ rfl ?_; focus (first | exact off_guard rfl rfl rfl | exact off_undef rfl rfl)) | (apply Ops_q0; (case hon => exact on_none); (case hq => exact Yl_assign rfl)))
  refine V_loop (fun s : Nat × List Nf => [(14, .int .i64 s.1), (13, .int .i64 L.length), (2, .pointer (some ⟨b1, 0, none⟩)), (1, .int .u32 router), (4, .pointer (some ⟨b2, 0, none⟩))])
    (fun s w' => Ext w w' ∧ Blk w' b1 39 [.int .i64 k0, .int .u32 pa, .int .i64 pl, .int .u32 ad0, .int .u32 ar, .int .i64 co, .int .i64 pr, .int .i64 he, .int .i64 de, .bool up, .int .u32 d0, .int .u32 bd0, .int .i64 el, .int .i64 nh, .slice ao1 L.length c1] ∧ Blk w' b2 39 [.int .i64 0, .int .u32 0, .int .i64 0, .int .u32 0, .int .u32 0, .int .i64 0, .int .i64 0, .int .i64 0, .int .i64 0, .bool false, .int .u32 0, .int .u32 0, .int .i64 0, .int .i64 0, .slice none 0 0] ∧ s.1 ≤ L.length ∧ Own w' w2.heap.size 31 15 (.slice ao1 L.length c1) (s.2.map Nf.cells) ∧ s.2.length = L.length ∧
      ∀ (j : Nat) (x y : Nf), L[j]? = some x → s.2[j]? = some y → (j < s.1 → CloneN w w' w2.heap.size (Value.slice ao1 L.length c1).ownBlock x y) ∧ (s.1 ≤ j → y = x)) (fun s => L.length - s.1) (0, L) (by repeat (first | exact trivial | refine ⟨rfl, ?_⟩))
    ⟨e4, k_b1, k_b2, Nat.zero_le _, o4, rfl, fun j x y hx hy => ⟨fun h => absurd h (Nat.not_lt_zero _), fun _ => by rw [hx] at hy; exact (Option.some.inj hy).symm⟩⟩ ?_
  clear k_b1 k_b2 o4 e4
  rintro ⟨k, M⟩ w5 ⟨e5, k_b1, k_b2, hk, hO, hMl, hM⟩
  dsimp only at hk hO hMl hM ⊢
  repeat (first | (apply Ops_q; (case hon => (first | exact on_none | exact on_guard rfl rfl)); (case hd => rfl); (case hq => exact YlA)) | refine V_seq ?_ | refine V_block ?_ | refine V_region ?_ | refine V_region_still rfl (by kernel_rfl) (by kernel_rfl) ?_ | refine V_skip ?_ | refine V_ret ?_ | refine V_exit ?_ | refine V_true rfl ?_ | refine V_false rfl ?_ | refine then_normal ?_ | refine then_ret ?_ | refine then_exit ?_ | refine block_normal ?_ | refine block_ret ?_ | refine block_hit ?_ | refine block_miss rfl ?_ | refine Ops_end rfl ?_ | (refine Ops_off ?_ rfl ?_; focus (first | exact off_guard rfl rfl rfl | exact off_undef rfl rfl)) | (apply Ops_q0; (case hon => exact on_none); (case hq => exact Yl_assign rfl)))
  refine V_cond rfl (fun hg => ?_) (fun hg => ?_)
  · replace hg := of_decide_eq_true hg
    have hkl : k < L.length := by omega
    obtain ⟨x, hx⟩ : ∃ x, L[k]? = some x := ⟨_, List.getElem?_eq_getElem hkl⟩
    obtain ⟨y, hMx⟩ : ∃ y, M[k]? = some y := ⟨_, List.getElem?_eq_getElem (by omega)⟩
    obtain rfl := (hM k x y hx hMx).2 (Nat.le_refl _)
    obtain ⟨⟨H1, h1⟩, ⟨H2, h2⟩, ⟨H3, h3⟩, ⟨H4, h4⟩⟩ := hh y (List.mem_of_getElem? hx)
    obtain ⟨g, cc, hv, hgw, hg5, _⟩ := hO.addr (fun h => by
      have h0 : L.length = 0 := by rw [← hMl, ← List.length_map (f := Nf.cells), h]; rfl
      omega)
    injection hv with hao _ hcc
    subst hao
    have D5 : NDat w5 w2.heap.size g L.length c1 M := ⟨hO, hMl⟩
    have hrow : (Value.slice (some ⟨g, 0, none⟩) L.length c1).ownBlock = some g := rfl
    rw [hrow] at hM ⊢
    have hc := D5.at hMx
    have c9 : w5.cell? (((⟨g, 0, none⟩ : Addr).add (k * 15)).add 9) = some (.slice y.li.ao y.li.n y.li.c) := hc 9 _ rfl
    have c10 : w5.cell? (((⟨g, 0, none⟩ : Addr).add (k * 15)).add 10) = some (.slice y.se.ao y.se.n y.se.c) := hc 10 _ rfl
    have hwg : w.heap.size ≤ g := by omega
    repeat (first | (apply Ops_q; (case hon => (first | exact on_none | exact on_guard rfl rfl)); (case hd => rfl); (case hq => exact YlA)) | refine V_seq ?_ | refine V_block ?_ | refine V_region ?_ | refine V_region_still rfl (by kernel_rfl) (by kernel_rfl) ?_ | refine V_skip ?_ | refine V_ret ?_ | refine V_exit ?_ | refine V_true rfl ?_ | refine V_false rfl ?_ | refine then_normal ?_ | refine then_ret ?_ | refine then_exit ?_ | refine block_normal ?_ | refine block_ret ?_ | refine block_hit ?_ | refine block_miss rfl ?_ | refine Ops_end rfl ?_ | (refine Ops_off ?_ rfl ?_; focus (first | exact off_guard rfl rfl rfl | exact off_undef rfl rfl)) | (apply Ops_q0; (case hon => exact on_none); (case hq => exact Yl_assign rfl)))
    (apply Ops_q; (case hon => (first | exact on_none | exact on_guard rfl rfl)); (case hd => rfl); (case hq => exact Yl_indexS (j := k) rfl rfl (by omega)))
    repeat (first | (apply Ops_q; (case hon => (first | exact on_none | exact on_guard rfl rfl)); (case hd => rfl); (case hq => exact YlA)) | refine V_seq ?_ | refine V_block ?_ | refine V_region ?_ | refine V_skip ?_ | refine V_ret ?_ | refine V_exit ?_ | refine V_true rfl ?_ | refine V_false rfl ?_ | refine then_normal ?_ | refine then_ret ?_ | refine then_exit ?_ | refine block_normal ?_ | refine block_ret ?_ | refine block_hit ?_ | refine block_miss rfl ?_ | refine Ops_end rfl ?_ | (refine Ops_off ?_ rfl ?_; focus (first | exact off_guard rfl rfl rfl | exact off_undef rfl rfl)) | (apply Ops_q0; (case hon => exact on_none); (case hq => exact Yl_assign rfl)))
    refine V_callE (f := 34) 11 6 (C := Ext w5) (R := fun r w' => Own w' w5.heap.size 60 7 r (H1.map Hd.cells)) (fun _ _ h he => h.trans he) (fun _ he => he) (fun _ _ _ he h => h.ext he) (by kernel_rfl) rfl (by kernel_rfl) (by rfl) rfl (by rfl) (by kernel_rfl) ?_
    refine .cons rfl rfl rfl rfl (fun _ _ => Yl_move rfl) (.cons rfl rfl rfl rfl (fun _ _ => Yl_move rfl) (.cons rfl rfl rfl rfl (fun _ _ => Yl_move rfl) (.cons rfl rfl rfl rfl (fun _ _ => Yl_nilCheck rfl) (.cons rfl rfl rfl rfl (fun _ _ => Yl_fieldAddr rfl) (.cons rfl rfl rfl rfl (fun _ hw => Yl_load rfl (hw.cell c9)) (.nil rfl ⟨_, rfl, ?_, ?_⟩))))))
    · exact fun w_ e_ => Calls.mono (cloneS_v _ H1 w_ (h1.ext (e5.trans e_))) fun e w' ⟨x, hx, he, hO⟩ => ⟨x, hx, e_.trans he, hO.mono e_.size⟩
    refine .cons rfl rfl rfl rfl (fun _ _ => Yl_move rfl) (.cons rfl rfl rfl rfl (fun _ _ => Yl_nilCheck rfl) (.cons rfl rfl rfl rfl (fun _ _ => Yl_fieldAddr rfl) (.cons rfl rfl rfl rfl (fun _ hw => Yl_load rfl (hw.cell c10)) (.nil rfl ?_))))
    intro r w6 e6 hO1
    obtain ⟨a1, q1, rfl, _⟩ := hO1.slice
    (refine Ops_callR (by first | exact on_none | exact on_guard rfl rfl) rfl rfl (fun w_ e_ => cloneS_v y.se H2 w_ (h2.ext (e5.trans (e6.trans e_)))) ?_; intro r2 w7 w0_ e0_ e1_ r_r2; have e_w7 := e0_.trans e1_; have b_r2 := e0_.size; clear e0_ e1_)
    obtain ⟨a2, q2, rfl, _⟩ := r_r2.slice
    replace r_r2 := r_r2.mono (Nat.le_trans e6.size b_r2)
    have e7 := e6.trans e_w7
    have D7 := D5.ext e7
    repeat (first | (apply Ops_q; (case hon => (first | exact on_none | exact on_guard rfl rfl)); (case hd => rfl); (case hq => exact YlA)) | refine V_seq ?_ | refine V_block ?_ | refine V_region ?_ | refine V_region_still rfl (by kernel_rfl) (by kernel_rfl) ?_ | refine V_skip ?_ | refine V_ret ?_ | refine V_exit ?_ | refine V_true rfl ?_ | refine V_false rfl ?_ | refine then_normal ?_ | refine then_ret ?_ | refine then_exit ?_ | refine block_normal ?_ | refine block_ret ?_ | refine block_hit ?_ | refine block_miss rfl ?_ | refine Ops_end rfl ?_ | (refine Ops_off ?_ rfl ?_; focus (first | exact off_guard rfl rfl rfl | exact off_undef rfl rfl)) | (apply Ops_q0; (case hon => exact on_none); (case hq => exact Yl_assign rfl)))
    refine Ops_storeN (z := y) { y with li := ⟨a1, (H1.map Hd.cells).length, q1⟩ } (by first | exact on_none | exact on_guard rfl rfl) rfl rfl rfl D7 hMx rfl (by decide) rfl ?_
    intro w8 D8 g8
    repeat (first | (apply Ops_q; (case hon => (first | exact on_none | exact on_guard rfl rfl)); (case hd => rfl); (case hq => exact YlA)) | refine V_seq ?_ | refine V_block ?_ | refine V_region ?_ | refine V_region_still rfl (by kernel_rfl) (by kernel_rfl) ?_ | refine V_skip ?_ | refine V_ret ?_ | refine V_exit ?_ | refine V_true rfl ?_ | refine V_false rfl ?_ | refine then_normal ?_ | refine then_ret ?_ | refine then_exit ?_ | refine block_normal ?_ | refine block_ret ?_ | refine block_hit ?_ | refine block_miss rfl ?_ | refine Ops_end rfl ?_ | (refine Ops_off ?_ rfl ?_; focus (first | exact off_guard rfl rfl rfl | exact off_undef rfl rfl)) | (apply Ops_q0; (case hon => exact on_none); (case hq => exact Yl_assign rfl)))
    refine Ops_storeN (z := { y with li := ⟨a1, (H1.map Hd.cells).length, q1⟩ }) { y with li := ⟨a1, (H1.map Hd.cells).length, q1⟩, se := ⟨a2, (H2.map Hd.cells).length, q2⟩ } (by first | exact on_none | exact on_guard rfl rfl) rfl rfl rfl D8 (by rw [List.getElem?_set_self (by omega)]) rfl (by decide) rfl ?_
    intro w9 D9 g9
    have gb : ∀ b, some g = some b → w.heap.size ≤ b := fun b hb => by cases hb; exact hwg
    have e9 := grow_below (grow_below (e5.trans e7) g8 gb) g9 gb
    have hnb1 : some b1 ≠ some g := fun e => by cases e; omega
    have hnb2 : some b2 ≠ some g := fun e => by cases e; omega
    have k91 := grow_blk g9 (grow_blk g8 (k_b1.ext e7) hnb1) hnb1
    have k92 := grow_blk g9 (grow_blk g8 (k_b2.ext e7) hnb2) hnb2
    have hdis : ∀ {w' : World} {v : Value} {X : List (List Value)}, Own w' w5.heap.size 60 7 v X → v.ownBlock ≠ some g := fun hO e => by have := hO.ge e; omega
    have C1 : CH w w9 w2.heap.size (some g) y.li ⟨a1, (H1.map Hd.cells).length, q1⟩ H1 := ⟨h1, (((hO1.ext e_w7).grow g8 (.inl (hdis hO1))).grow g9 (.inl (hdis hO1))).mono (by omega), .inl (hdis hO1)⟩
    have C2 : CH w w9 w2.heap.size (some g) y.se ⟨a2, (H2.map Hd.cells).length, q2⟩ H2 := ⟨h2, ((r_r2.grow g8 (.inl (hdis r_r2))).grow g9 (.inl (hdis r_r2))).mono (by omega), .inl (hdis r_r2)⟩
    have hMx9 : ((M.set k { y with li := ⟨a1, (H1.map Hd.cells).length, q1⟩ }).set k { y with li := ⟨a1, (H1.map Hd.cells).length, q1⟩, se := ⟨a2, (H2.map Hd.cells).length, q2⟩ })[k]? = some { y with li := ⟨a1, (H1.map Hd.cells).length, q1⟩, se := ⟨a2, (H2.map Hd.cells).length, q2⟩ } := List.getElem?_set_self (by rw [List.length_set]; omega)
    have hc9 := D9.at hMx9
    have c12 : w9.cell? (((⟨g, 0, none⟩ : Addr).add (k * 15)).add 12) = some (.slice y.re.ao y.re.n y.re.c) := hc9 12 _ rfl
    have c13 : w9.cell? (((⟨g, 0, none⟩ : Addr).add (k * 15)).add 13) = some (.slice y.ua.ao y.ua.n y.ua.c) := hc9 13 _ rfl
    have hg9 : g < w9.heap.size := D9.own.lt rfl
    have hw25 := hg5
    clear c9 c10 hc D5 D7 hO hO1 r_r2 k_b1 k_b2 hnb1
    repeat (first | (apply Ops_q; (case hon => (first | exact on_none | exact on_guard rfl rfl)); (case hd => rfl); (case hq => exact YlA)) | refine V_seq ?_ | refine V_block ?_ | refine V_region ?_ | refine V_skip ?_ | refine V_ret ?_ | refine V_exit ?_ | refine V_true rfl ?_ | refine V_false rfl ?_ | refine then_normal ?_ | refine then_ret ?_ | refine then_exit ?_ | refine block_normal ?_ | refine block_ret ?_ | refine block_hit ?_ | refine block_miss rfl ?_ | refine Ops_end rfl ?_ | (refine Ops_off ?_ rfl ?_; focus (first | exact off_guard rfl rfl rfl | exact off_undef rfl rfl)) | (apply Ops_q0; (case hon => exact on_none); (case hq => exact Yl_assign rfl)))
    refine V_callE (f := 34) 11 6 (C := Ext w9) (R := fun r w' => Own w' w9.heap.size 60 7 r (H3.map Hd.cells)) (fun _ _ h he => h.trans he) (fun _ he => he) (fun _ _ _ he h => h.ext he) (by kernel_rfl) rfl (by kernel_rfl) (by rfl) rfl (by rfl) (by kernel_rfl) ?_
    refine .cons rfl rfl rfl rfl (fun _ _ => Yl_move rfl) (.cons rfl rfl rfl rfl (fun _ _ => Yl_move rfl) (.cons rfl rfl rfl rfl (fun _ _ => Yl_move rfl) (.cons rfl rfl rfl rfl (fun _ _ => Yl_nilCheck rfl) (.cons rfl rfl rfl rfl (fun _ _ => Yl_fieldAddr rfl) (.cons rfl rfl rfl rfl (fun _ hw => Yl_load rfl (hw.cell c12)) (.nil rfl ⟨_, rfl, ?_, ?_⟩))))))
    · exact fun w_ e_ => Calls.mono (cloneS_v _ H3 w_ (h3.ext (e9.trans e_))) fun e w' ⟨x, hx, he, hO⟩ => ⟨x, hx, e_.trans he, hO.mono e_.size⟩
    refine .cons rfl rfl rfl rfl (fun _ _ => Yl_move rfl) (.cons rfl rfl rfl rfl (fun _ _ => Yl_nilCheck rfl) (.cons rfl rfl rfl rfl (fun _ _ => Yl_fieldAddr rfl) (.cons rfl rfl rfl rfl (fun _ hw => Yl_load rfl (hw.cell c13)) (.nil rfl ?_))))
    intro r w10 e10 hO3
    obtain ⟨a3, q3, rfl, _⟩ := hO3.slice
    (refine Ops_callR (by first | exact on_none | exact on_guard rfl rfl) rfl rfl (fun w_ e_ => cloneS_v y.ua H4 w_ (h4.ext (e9.trans (e10.trans e_)))) ?_; intro r4 w11 w0_ e0_ e1_ r_r4; have e_w11 := e0_.trans e1_; have b_r4 := e0_.size; clear e0_ e1_)
    obtain ⟨a4, q4, rfl, _⟩ := r_r4.slice
    replace r_r4 := r_r4.mono (Nat.le_trans e10.size b_r4)
    have e11 := e10.trans e_w11
    have D11 := D9.ext e11
    repeat (first | (apply Ops_q; (case hon => (first | exact on_none | exact on_guard rfl rfl)); (case hd => rfl); (case hq => exact YlA)) | refine V_seq ?_ | refine V_block ?_ | refine V_region ?_ | refine V_region_still rfl (by kernel_rfl) (by kernel_rfl) ?_ | refine V_skip ?_ | refine V_ret ?_ | refine V_exit ?_ | refine V_true rfl ?_ | refine V_false rfl ?_ | refine then_normal ?_ | refine then_ret ?_ | refine then_exit ?_ | refine block_normal ?_ | refine block_ret ?_ | refine block_hit ?_ | refine block_miss rfl ?_ | refine Ops_end rfl ?_ | (refine Ops_off ?_ rfl ?_; focus (first | exact off_guard rfl rfl rfl | exact off_undef rfl rfl)) | (apply Ops_q0; (case hon => exact on_none); (case hq => exact Yl_assign rfl)))
    refine Ops_storeN (z := { y with li := ⟨a1, (H1.map Hd.cells).length, q1⟩, se := ⟨a2, (H2.map Hd.cells).length, q2⟩ }) { y with li := ⟨a1, (H1.map Hd.cells).length, q1⟩, se := ⟨a2, (H2.map Hd.cells).length, q2⟩, re := ⟨a3, (H3.map Hd.cells).length, q3⟩ } (by first | exact on_none | exact on_guard rfl rfl) rfl rfl rfl D11 hMx9 rfl (by decide) rfl ?_
    intro w12 D12 g12
    repeat (first | (apply Ops_q; (case hon => (first | exact on_none | exact on_guard rfl rfl)); (case hd => rfl); (case hq => exact YlA)) | refine V_seq ?_ | refine V_block ?_ | refine V_region ?_ | refine V_region_still rfl (by kernel_rfl) (by kernel_rfl) ?_ | refine V_skip ?_ | refine V_ret ?_ | refine V_exit ?_ | refine V_true rfl ?_ | refine V_false rfl ?_ | refine then_normal ?_ | refine then_ret ?_ | refine then_exit ?_ | refine block_normal ?_ | refine block_ret ?_ | refine block_hit ?_ | refine block_miss rfl ?_ | refine Ops_end rfl ?_ | (refine Ops_off ?_ rfl ?_; focus (first | exact off_guard rfl rfl rfl | exact off_undef rfl rfl)) | (apply Ops_q0; (case hon => exact on_none); (case hq => exact Yl_assign rfl)))
    refine Ops_storeN (z := { y with li := ⟨a1, (H1.map Hd.cells).length, q1⟩, se := ⟨a2, (H2.map Hd.cells).length, q2⟩, re := ⟨a3, (H3.map Hd.cells).length, q3⟩ }) { y with li := ⟨a1, (H1.map Hd.cells).length, q1⟩, se := ⟨a2, (H2.map Hd.cells).length, q2⟩, re := ⟨a3, (H3.map Hd.cells).length, q3⟩, ua := ⟨a4, (H4.map Hd.cells).length, q4⟩ } (by first | exact on_none | exact on_guard rfl rfl) rfl rfl rfl D12 (by rw [List.getElem?_set_self (by rw [List.length_set, List.length_set]; omega)]) rfl (by decide) rfl ?_
    intro w13 D13 g13
    have e13 := grow_below (grow_below (e9.trans e11) g12 gb) g13 gb
    have hnb1 : some b1 ≠ some g := fun e => by cases e; omega
    have k131 := grow_blk g13 (grow_blk g12 (k91.ext e11) hnb1) hnb1
    have k132 := grow_blk g13 (grow_blk g12 (k92.ext e11) hnb2) hnb2
    have hdis9 : ∀ {w' : World} {v : Value} {X : List (List Value)}, Own w' w9.heap.size 60 7 v X → v.ownBlock ≠ some g := fun hO e => by have := hO.ge e; omega
    have hsz9 : w5.heap.size ≤ w9.heap.size := Nat.le_trans e7.size (Nat.le_trans g8.size g9.size)
    have C3 : CH w w13 w2.heap.size (some g) y.re ⟨a3, (H3.map Hd.cells).length, q3⟩ H3 := ⟨h3, (((hO3.ext e_w11).grow g12 (.inl (hdis9 hO3))).grow g13 (.inl (hdis9 hO3))).mono (by omega), .inl (hdis9 hO3)⟩
    have C4 : CH w w13 w2.heap.size (some g) y.ua ⟨a4, (H4.map Hd.cells).length, q4⟩ H4 := ⟨h4, ((r_r4.grow g12 (.inl (hdis9 r_r4))).grow g13 (.inl (hdis9 r_r4))).mono (by omega), .inl (hdis9 r_r4)⟩
    have C13 : CloneN w w13 w2.heap.size (some g) y { y with li := ⟨a1, (H1.map Hd.cells).length, q1⟩, se := ⟨a2, (H2.map Hd.cells).length, q2⟩, re := ⟨a3, (H3.map Hd.cells).length, q3⟩, ua := ⟨a4, (H4.map Hd.cells).length, q4⟩ } :=
      ⟨_, _, _, _, H1, H2, H3, H4, rfl, ((C1.ext e11).grow g12).grow g13, ((C2.ext e11).grow g12).grow g13, C3, C4⟩
    generalize ({ y with li := ⟨a1, (H1.map Hd.cells).length, q1⟩, se := ⟨a2, (H2.map Hd.cells).length, q2⟩, re := ⟨a3, (H3.map Hd.cells).length, q3⟩, ua := ⟨a4, (H4.map Hd.cells).length, q4⟩ } : Nf) = z at *
    rw [List.set_set, List.set_set, List.set_set] at D13
    repeat (first | (apply Ops_q; (case hon => (first | exact on_none | exact on_guard rfl rfl)); (case hd => rfl); (case hq => exact YlA)) | refine V_seq ?_ | refine V_block ?_ | refine V_region ?_ | refine V_region_still rfl (by kernel_rfl) (by kernel_rfl) ?_ | refine V_skip ?_ | refine V_ret ?_ | refine V_exit ?_ | refine V_true rfl ?_ | refine V_false rfl ?_ | refine then_normal ?_ | refine then_ret ?_ | refine then_exit ?_ | refine block_normal ?_ | refine block_ret ?_ | refine block_hit ?_ | refine block_miss rfl ?_ | refine Ops_end rfl ?_ | (refine Ops_off ?_ rfl ?_; focus (first | exact off_guard rfl rfl rfl | exact off_undef rfl rfl)) | (apply Ops_q0; (case hon => exact on_none); (case hq => exact Yl_assign rfl)))
    refine ⟨(k + 1, M.set k z), (by repeat (first | exact trivial | refine ⟨rfl, ?_⟩)), ⟨e13, k131, k132, hkl, D13.own, D13.len, fun j x' y' hx' hy' => ?_⟩, by simp only; omega⟩
    rw [List.getElem?_set] at hy'
    by_cases hjk : k = j
    · subst hjk
      rw [if_pos rfl, if_pos (by omega)] at hy'
      cases hy'
      rw [hx] at hx'; cases hx'
      exact ⟨fun _ => C13, fun h => by dsimp only at h; omega⟩
    · rw [if_neg hjk] at hy'
      obtain ⟨i1, i2⟩ := hM j x' y' hx' hy'
      refine ⟨fun h => ?_, fun h => i2 (by dsimp only at h; omega)⟩
      dsimp only at h
      exact (((((i1 (by omega)).ext e7).grow g8).grow g9).ext e11 |>.grow g12).grow g13
  replace hg := of_decide_eq_false hg
  obtain rfl : k = L.length := by omega
  have hcl : ∀ (j : Nat) (x y : Nf), L[j]? = some x → M[j]? = some y → CloneN w w5 w2.heap.size (Value.slice ao1 L.length c1).ownBlock x y := fun j x y hx hy => (hM j x y hx hy).1 (List.getElem?_eq_some_iff.1 hx).1
  have hstrip : M.map Nf.strip = L.map Nf.strip := by
    refine List.ext_getElem? fun j => ?_
    rw [List.getElem?_map, List.getElem?_map]
    rcases Nat.lt_or_ge j L.length with h | h
    · have h1 : L[j]? = some L[j] := List.getElem?_eq_getElem h
      have h2 : M[j]? = some (M[j]'(by omega)) := List.getElem?_eq_getElem (by omega)
      obtain ⟨li, se, re, ua, _, _, _, _, h3, _⟩ := hcl j _ _ h1 h2
      rw [h1, h2, h3]; rfl
    · rw [List.getElem?_eq_none h, List.getElem?_eq_none (by omega)]
  have hnf : ∀ {w' : World}, Mod (fun c => c < w2.heap.size) w5 w' → Nfs w' ao1 M := fun hm => by
    obtain ⟨ao2, c2, hv2, hA2⟩ := (hm.own hO (fun b hb => Nat.not_lt.2 (hO.ge hb))).slice
    injection hv2 with hao2 _ hc2
    subst hao2
    exact hA2
  have hfin : ∀ {w' : World}, Ext w w' → Mod (fun c => c < w2.heap.size) w5 w' → Nfs w' ao1 M ∧ L.length = L.length ∧ M.length = L.length ∧ ∀ (k : Nat) (x y : Nf), L[k]? = some x → M[k]? = some y → SameN w' x y :=
    fun he hm => ⟨hnf hm, rfl, hMl, fun k x y hx hy => ((hcl k x y hx hy).mod hm).same he⟩
  have hNf : Nfs w5 ao1 M := hnf (.of_ext (Ext.refl _))
  clear hM hO hnf
  repeat (first | (apply Ops_q; (case hon => (first | exact on_none | exact on_guard rfl rfl)); (case hd => rfl); (case hq => exact YlA)) | refine V_seq ?_ | refine V_block ?_ | refine V_region ?_ | refine V_region_still rfl (by kernel_rfl) (by kernel_rfl) ?_ | refine V_skip ?_ | refine V_ret ?_ | refine V_exit ?_ | refine V_true rfl ?_ | refine V_false rfl ?_ | refine then_normal ?_ | refine then_ret ?_ | refine then_exit ?_ | refine block_normal ?_ | refine block_ret ?_ | refine block_hit ?_ | refine block_miss rfl ?_ | refine Ops_end rfl ?_ | (refine Ops_off ?_ rfl ?_; focus (first | exact off_guard rfl rfl rfl | exact off_undef rfl rfl)) | (apply Ops_q0; (case hon => exact on_none); (case hq => exact Yl_assign rfl)))
  cases up with
  | false =>
    repeat (first | (apply Ops_q; (case hon => (first | exact on_none | exact on_guard rfl rfl)); (case hd => rfl); (case hq => exact YlA)) | refine V_seq ?_ | refine V_block ?_ | refine V_region ?_ | refine V_region_still rfl (by kernel_rfl) (by kernel_rfl) ?_ | refine V_skip ?_ | refine V_ret ?_ | refine V_exit ?_ | refine V_true rfl ?_ | refine V_false rfl ?_ | refine then_normal ?_ | refine then_ret ?_ | refine then_exit ?_ | refine block_normal ?_ | refine block_ret ?_ | refine block_hit ?_ | refine block_miss rfl ?_ | refine Ops_end rfl ?_ | (refine Ops_off ?_ rfl ?_; focus (first | exact off_guard rfl rfl rfl | exact off_undef rfl rfl)) | (apply Ops_q0; (case hon => exact on_none); (case hq => exact Yl_assign rfl)))
    (refine Ops_store (by first | exact on_none | exact on_guard rfl rfl) rfl rfl (by assumption) (by first | rfl | exact OneAll.h) ?_; intro w6 u_w6; have k_b2 := u_w6.blk)
    have e6 : Ext w w6 := u_w6.below e5 (by omega)
    have m6 : Mod (fun c => c < w2.heap.size) w5 w6 := (Mod.of_ext (Ext.refl _)).upd u_w6 (.inl hl2)
    repeat (first | (apply Ops_q; (case hon => (first | exact on_none | exact on_guard rfl rfl)); (case hd => rfl); (case hq => exact YlA)) | refine V_seq ?_ | refine V_block ?_ | refine V_region ?_ | refine V_region_still rfl (by kernel_rfl) (by kernel_rfl) ?_ | refine V_skip ?_ | refine V_ret ?_ | refine V_exit ?_ | refine V_true rfl ?_ | refine V_false rfl ?_ | refine then_normal ?_ | refine then_ret ?_ | refine then_exit ?_ | refine block_normal ?_ | refine block_ret ?_ | refine block_hit ?_ | refine block_miss rfl ?_ | refine Ops_end rfl ?_ | (refine Ops_off ?_ rfl ?_; focus (first | exact off_guard rfl rfl rfl | exact off_undef rfl rfl)) | (apply Ops_q0; (case hon => exact on_none); (case hq => exact Yl_assign rfl)))
    refine retR1 (by first | exact .inl rfl | exact .inr rfl) rfl (res_agg rfl k_b2.cells) ?_
    exact Gives_mk (fun w' he => ⟨⟨ao1, L.length, c1⟩, M, rfl, hfin (e6.trans he) (m6.ext he)⟩) e6
  | true =>
    repeat (first | (apply Ops_q; (case hon => (first | exact on_none | exact on_guard rfl rfl)); (case hd => rfl); (case hq => exact YlA)) | refine V_seq ?_ | refine V_block ?_ | refine V_region ?_ | refine V_region_still rfl (by kernel_rfl) (by kernel_rfl) ?_ | refine V_skip ?_ | refine V_ret ?_ | refine V_exit ?_ | refine V_true rfl ?_ | refine V_false rfl ?_ | refine then_normal ?_ | refine then_ret ?_ | refine then_exit ?_ | refine block_normal ?_ | refine block_ret ?_ | refine block_hit ?_ | refine block_miss rfl ?_ | refine Ops_end rfl ?_ | (refine Ops_off ?_ rfl ?_; focus (first | exact off_guard rfl rfl rfl | exact off_undef rfl rfl)) | (apply Ops_q0; (case hon => exact on_none); (case hq => exact Yl_assign rfl)))
    refine V_cond rfl (fun hk2 => ?_) (fun hk2 => ?_)
    · have hk3 := of_decide_eq_true hk2
      have hsM : M.Pairwise (fun x y => x.r < y.r) := by
        have h1 : (L.map Nf.strip).Pairwise (fun x y => x.r < y.r) := (List.pairwise_map (f := Nf.strip)).2 hsrt
        rw [← hstrip] at h1
        exact (List.pairwise_map (f := Nf.strip) (R := fun x y : Nf => x.r < y.r)).1 h1
      have hrl : rl router (cand router ad0 pr d0 bd0) (decide (pr ≤ 0)) M = rl router (cand router ad0 pr d0 bd0) (decide (pr ≤ 0)) L := by rw [← rl_strip, hstrip, rl_strip]
      have hrll := rl_len router (cand router ad0 pr d0 bd0) L (decide (pr ≤ 0))
      repeat (first | (apply Ops_q; (case hon => (first | exact on_none | exact on_guard rfl rfl)); (case hd => rfl); (case hq => exact YlA)) | refine V_seq ?_ | refine V_block ?_ | refine V_region ?_ | refine V_region_still rfl (by kernel_rfl) (by kernel_rfl) ?_ | refine V_skip ?_ | refine V_ret ?_ | refine V_exit ?_ | refine V_true rfl ?_ | refine V_false rfl ?_ | refine then_normal ?_ | refine then_ret ?_ | refine then_exit ?_ | refine block_normal ?_ | refine block_ret ?_ | refine block_hit ?_ | refine block_miss rfl ?_ | refine Ops_end rfl ?_ | (refine Ops_off ?_ rfl ?_; focus (first | exact off_guard rfl rfl rfl | exact off_undef rfl rfl)) | (apply Ops_q0; (case hon => exact on_none); (case hq => exact Yl_assign rfl)))
      (refine Ops_callR (by first | exact on_none | exact on_guard rfl rfl) rfl rfl (fun w_ e_ => candidates_v ⟨k0, pa, pl, ad0, ar, co, pr, he, de, true, d0, bd0, el, nh, ⟨ao1, L.length, c1⟩⟩ router M w_ (hNf.ext e_) hMl.symm (by omega)) ?_; intro v w6 w0_ e0_ e1_ r_v; have e_w6 := e0_.trans e1_; have b_v := e0_.size; clear e0_ e1_)
      obtain ⟨M', hO', hp', hA'⟩ := r_v
      have hM' := cands_eq hsM hp' hA'
      replace hM' : M' = (rl router (cand router ad0 pr d0 bd0) (decide (pr ≤ 0)) L).map Nf.nb := by rw [← hrl]; exact hM'
      obtain ⟨ao7, c7, rfl, hA7⟩ := hO'.slice
      rw [List.length_map]
      have hl7 : M'.length ≤ L.length + 1 := by rw [hM', List.length_map]; exact hrll
      have hNb : Nbs w6 ao7 M' := Nbs.of_arr hA7
      clear hO' hp' hA' hA7
      replace k_b1 := k_b1.ext e_w6
      replace k_b2 := k_b2.ext e_w6
      repeat (first | (apply Ops_q; (case hon => (first | exact on_none | exact on_guard rfl rfl)); (case hd => rfl); (case hq => exact YlA)) | refine V_seq ?_ | refine V_block ?_ | refine V_region ?_ | refine V_region_still rfl (by kernel_rfl) (by kernel_rfl) ?_ | refine V_skip ?_ | refine V_ret ?_ | refine V_exit ?_ | refine V_true rfl ?_ | refine V_false rfl ?_ | refine then_normal ?_ | refine then_ret ?_ | refine then_exit ?_ | refine block_normal ?_ | refine block_ret ?_ | refine block_hit ?_ | refine block_miss rfl ?_ | refine Ops_end rfl ?_ | (refine Ops_off ?_ rfl ?_; focus (first | exact off_guard rfl rfl rfl | exact off_undef rfl rfl)) | (apply Ops_q0; (case hon => exact on_none); (case hq => exact Yl_assign rfl)))
      (apply Ops_q; (case hon => (first | exact on_none | exact on_guard rfl rfl)); (case hd => rfl); (case hq => exact Yl_call rfl (fun w_ e_ => elect_v router ao7 M' c7 w_ (hNb.ext e_) (by omega))))
      repeat (first | (apply Ops_q; (case hon => (first | exact on_none | exact on_guard rfl rfl)); (case hd => rfl); (case hq => exact YlA)) | refine V_seq ?_ | refine V_block ?_ | refine V_region ?_ | refine V_region_still rfl (by kernel_rfl) (by kernel_rfl) ?_ | refine V_skip ?_ | refine V_ret ?_ | refine V_exit ?_ | refine V_true rfl ?_ | refine V_false rfl ?_ | refine then_normal ?_ | refine then_ret ?_ | refine then_exit ?_ | refine block_normal ?_ | refine block_ret ?_ | refine block_hit ?_ | refine block_miss rfl ?_ | refine Ops_end rfl ?_ | (refine Ops_off ?_ rfl ?_; focus (first | exact off_guard rfl rfl rfl | exact off_undef rfl rfl)) | (apply Ops_q0; (case hon => exact on_none); (case hq => exact Yl_assign rfl)))
      (refine Ops_store (by first | exact on_none | exact on_guard rfl rfl) rfl rfl (by assumption) (by first | rfl | exact OneAll.h) ?_; intro w7 u_w7; have k_b1 := u_w7.blk)
      replace k_b2 := u_w7.keep k_b2 ne_b1_b2.symm
      have e7 := u_w7.below (e5.trans e_w6) hb1w
      have m7 : Mod (fun c => c < w2.heap.size) w5 w7 := (Mod.of_ext e_w6).upd u_w7 (.inl hl1)
      repeat (first | (apply Ops_q; (case hon => (first | exact on_none | exact on_guard rfl rfl)); (case hd => rfl); (case hq => exact YlA)) | refine V_seq ?_ | refine V_block ?_ | refine V_region ?_ | refine V_region_still rfl (by kernel_rfl) (by kernel_rfl) ?_ | refine V_skip ?_ | refine V_ret ?_ | refine V_exit ?_ | refine V_true rfl ?_ | refine V_false rfl ?_ | refine then_normal ?_ | refine then_ret ?_ | refine then_exit ?_ | refine block_normal ?_ | refine block_ret ?_ | refine block_hit ?_ | refine block_miss rfl ?_ | refine Ops_end rfl ?_ | (refine Ops_off ?_ rfl ?_; focus (first | exact off_guard rfl rfl rfl | exact off_undef rfl rfl)) | (apply Ops_q0; (case hon => exact on_none); (case hq => exact Yl_assign rfl)))
      (refine Ops_store (by first | exact on_none | exact on_guard rfl rfl) rfl rfl (by assumption) (by first | rfl | exact OneAll.h) ?_; intro w8 u_w8; have k_b1 := u_w8.blk)
      replace k_b2 := u_w8.keep k_b2 ne_b1_b2.symm
      have e8 := u_w8.below e7 hb1w
      have m8 := m7.upd u_w8 (.inl hl1)
      repeat (first | (apply Ops_q; (case hon => (first | exact on_none | exact on_guard rfl rfl)); (case hd => rfl); (case hq => exact YlA)) | refine V_seq ?_ | refine V_block ?_ | refine V_region ?_ | refine V_region_still rfl (by kernel_rfl) (by kernel_rfl) ?_ | refine V_skip ?_ | refine V_ret ?_ | refine V_exit ?_ | refine V_true rfl ?_ | refine V_false rfl ?_ | refine then_normal ?_ | refine then_ret ?_ | refine then_exit ?_ | refine block_normal ?_ | refine block_ret ?_ | refine block_hit ?_ | refine block_miss rfl ?_ | refine Ops_end rfl ?_ | (refine Ops_off ?_ rfl ?_; focus (first | exact off_guard rfl rfl rfl | exact off_undef rfl rfl)) | (apply Ops_q0; (case hon => exact on_none); (case hq => exact Yl_assign rfl)))
      (refine Ops_store (by first | exact on_none | exact on_guard rfl rfl) rfl rfl (by assumption) (by first | rfl | exact OneAll.h) ?_; intro w9 u_w9; have k_b1 := u_w9.blk)
      replace k_b2 := u_w9.keep k_b2 ne_b1_b2.symm
      have e9 := u_w9.below e8 hb1w
      have m9 := m8.upd u_w9 (.inl hl1)
      repeat (first | (apply Ops_q; (case hon => (first | exact on_none | exact on_guard rfl rfl)); (case hd => rfl); (case hq => exact YlA)) | refine V_seq ?_ | refine V_block ?_ | refine V_region ?_ | refine V_region_still rfl (by kernel_rfl) (by kernel_rfl) ?_ | refine V_skip ?_ | refine V_ret ?_ | refine V_exit ?_ | refine V_true rfl ?_ | refine V_false rfl ?_ | refine then_normal ?_ | refine then_ret ?_ | refine then_exit ?_ | refine block_normal ?_ | refine block_ret ?_ | refine block_hit ?_ | refine block_miss rfl ?_ | refine Ops_end rfl ?_ | (refine Ops_off ?_ rfl ?_; focus (first | exact off_guard rfl rfl rfl | exact off_undef rfl rfl)) | (apply Ops_q0; (case hon => exact on_none); (case hq => exact Yl_assign rfl)))
      (refine Ops_store (by first | exact on_none | exact on_guard rfl rfl) rfl rfl (by assumption) (by first | rfl | exact OneAll.h) ?_; intro w10 u_w10; have k_b2 := u_w10.blk)
      have e10 := u_w10.below e9 (by omega)
      have m10 := m9.upd u_w10 (.inl hl2)
      repeat (first | (apply Ops_q; (case hon => (first | exact on_none | exact on_guard rfl rfl)); (case hd => rfl); (case hq => exact YlA)) | refine V_seq ?_ | refine V_block ?_ | refine V_region ?_ | refine V_region_still rfl (by kernel_rfl) (by kernel_rfl) ?_ | refine V_skip ?_ | refine V_ret ?_ | refine V_exit ?_ | refine V_true rfl ?_ | refine V_false rfl ?_ | refine then_normal ?_ | refine then_ret ?_ | refine then_exit ?_ | refine block_normal ?_ | refine block_ret ?_ | refine block_hit ?_ | refine block_miss rfl ?_ | refine Ops_end rfl ?_ | (refine Ops_off ?_ rfl ?_; focus (first | exact off_guard rfl rfl rfl | exact off_undef rfl rfl)) | (apply Ops_q0; (case hon => exact on_none); (case hq => exact Yl_assign rfl)))
      refine retR1 (by first | exact .inl rfl | exact .inr rfl) rfl (res_agg rfl k_b2.cells) ?_
      refine Gives_mk (fun w' he => ⟨⟨ao1, L.length, c1⟩, M, ?_, hfin (e10.trans he) (m10.ext he)⟩) e10
      rw [runS, hM', if_pos (by rw [Bool.true_and]; exact hk2)]; rfl
    · repeat (first | (apply Ops_q; (case hon => (first | exact on_none | exact on_guard rfl rfl)); (case hd => rfl); (case hq => exact YlA)) | refine V_seq ?_ | refine V_block ?_ | refine V_region ?_ | refine V_region_still rfl (by kernel_rfl) (by kernel_rfl) ?_ | refine V_skip ?_ | refine V_ret ?_ | refine V_exit ?_ | refine V_true rfl ?_ | refine V_false rfl ?_ | refine then_normal ?_ | refine then_ret ?_ | refine then_exit ?_ | refine block_normal ?_ | refine block_ret ?_ | refine block_hit ?_ | refine block_miss rfl ?_ | refine Ops_end rfl ?_ | (refine Ops_off ?_ rfl ?_; focus (first | exact off_guard rfl rfl rfl | exact off_undef rfl rfl)) | (apply Ops_q0; (case hon => exact on_none); (case hq => exact Yl_assign rfl)))
      (refine Ops_store (by first | exact on_none | exact on_guard rfl rfl) rfl rfl (by assumption) (by first | rfl | exact OneAll.h) ?_; intro w6 u_w6; have k_b2 := u_w6.blk)
      have e6 : Ext w w6 := u_w6.below e5 (by omega)
      have m6 : Mod (fun c => c < w2.heap.size) w5 w6 := (Mod.of_ext (Ext.refl _)).upd u_w6 (.inl hl2)
      repeat (first | (apply Ops_q; (case hon => (first | exact on_none | exact on_guard rfl rfl)); (case hd => rfl); (case hq => exact YlA)) | refine V_seq ?_ | refine V_block ?_ | refine V_region ?_ | refine V_region_still rfl (by kernel_rfl) (by kernel_rfl) ?_ | refine V_skip ?_ | refine V_ret ?_ | refine V_exit ?_ | refine V_true rfl ?_ | refine V_false rfl ?_ | refine then_normal ?_ | refine then_ret ?_ | refine then_exit ?_ | refine block_normal ?_ | refine block_ret ?_ | refine block_hit ?_ | refine block_miss rfl ?_ | refine Ops_end rfl ?_ | (refine Ops_off ?_ rfl ?_; focus (first | exact off_guard rfl rfl rfl | exact off_undef rfl rfl)) | (apply Ops_q0; (case hon => exact on_none); (case hq => exact Yl_assign rfl)))
      refine retR1 (by first | exact .inl rfl | exact .inr rfl) rfl (res_agg rfl k_b2.cells) ?_
      refine Gives_mk (fun w' he => ⟨⟨ao1, L.length, c1⟩, M, ?_, hfin (e6.trans he) (m6.ext he)⟩) e6
      rw [runS, if_neg (by rw [Bool.true_and]; rw [hk2]; exact Bool.false_ne_true)]
end Go.Proofs.Ytfakgiikobajnaa

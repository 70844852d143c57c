/-
  Stable sorting with a function that compares: the walks of swapRange, rotate, insertionSort.
  Conditions: the list is one's own, and not too long for a machine.
-/
import Derived.Test.YtfakgiikobajnaaSortP
import Derived.Test.YtfakgiikobajnaaElE
import Derived.Test.YtfakgiikobajnaaVStore
namespace Go.Proofs.Ytfakgiikobajnaa
open Go.RowKit

/-- A list of one's own in memory, by its block. -/
structure Dat (w : World) (base g n cap : Nat) (L : List Nb) : Prop where
  own : Own w base 31 15 (.slice (some ⟨g, 0, none⟩) n cap) (L.map Nb.cells)
  len : L.length = n
theorem Dat.ext {w w1 : World} {base g n cap : Nat} {L : List Nb} (h : Dat w base g n cap L) (he : Ext w w1) : Dat w1 base g n cap L := ⟨h.own.ext he, h.len⟩
theorem Dat.at {w : World} {base g n cap : Nat} {L : List Nb} (h : Dat w base g n cap L) {k : Nat} {x : Nb} (hx : L[k]? = some x) : Cells w ((⟨g, 0, none⟩ : Addr).add (k * 15)) x.cells := by
  obtain ⟨ao, c, hv, hA⟩ := h.own.slice
  obtain ⟨ad, h1, h2⟩ := hA k x.cells (by rw [List.getElem?_map, hx]; rfl)
  injection hv with e1 e2 e3
  rw [h1] at e1
  cases e1; exact h2
theorem Dat.get {w : World} {base g n cap : Nat} {L : List Nb} (h : Dat w base g n cap L) {k : Nat} (hk : k < n) : ∃ x, L[k]? = some x := ⟨_, List.getElem?_eq_getElem (by rw [h.len]; exact hk)⟩
section
variable {P : Program} {N : Nat} {ops : Array Oper} {K : Env → World → Prop} {m : Env} {w : World} {rest : List Oper} {ty : TypeId} {pos : String} {after : Array Edge} {gd : Option (Nat × Bool)}
theorem Ops_storeDat {x y : Operand} {base b0 g n cap i : Nat} {p : Addr} {v : Nb} {L : List Nb} [hs : TSize P 31 15 b0] (hon : On N ops m ⟨none, .store 31 x y, ty, pos, after, gd⟩)
    (hx : ev m x = some (.pointer (some p))) (hy : ev m y = some v.val) (hp : p = (⟨g, 0, none⟩ : Addr).add (i * 15)) (hD : Dat w base g n cap L) (hi : i < n)
    (h : ∀ w1, Dat w1 base g n cap (L.set i v) → w.grownBy w1 (some g) → Ops P N ops false K rest m w1) : Ops P N ops false K (⟨none, .store 31 x y, ty, pos, after, gd⟩ :: rest) m w := by
  obtain ⟨o, hl⟩ := hD
  subst hl
  have hm : (L.map Nb.cells).length = L.length := List.length_map ..
  refine Ops_storeElem (i := i) (u := v.cells) (L := L.map Nb.cells) (base := base) (g := g) (cap := cap) hon hx hy (by rw [hp, add_blk, Nat.zero_add]) (by rw [hm]; exact o) (by rw [hm]; exact hi) OneAll.h (fun w1 o1 g1 => h w1 ⟨?_, List.length_set ..⟩ g1)
  rw [List.map_set]
  rw [hm] at o1; exact o1
theorem storeDat_run {x y : Operand} {base b0 g n cap i : Nat} {p : Addr} {v : Nb} {L : List Nb} [hs : TSize P 31 15 b0] (hx : ev m x = some (.pointer (some p))) (hy : ev m y = some v.val) (hp : p = (⟨g, 0, none⟩ : Addr).add (i * 15)) (hD : Dat w base g n cap L) (hi : i < n)
    (a : Act) (ha : Agree N m a) (w' : World) (hw : Ext w w') : ∃ w'', (execOp a.eval ⟨none, .store 31 x y, ty, pos, after, gd⟩).run P w' = .ok .skip w'' ∧ Dat w'' base g n cap (L.set i v) ∧ Mod (fun c => c = g) w w'' := by
  obtain ⟨o, hl⟩ := hD
  subst hl
  have hm : (L.map Nb.cells).length = L.length := List.length_map ..
  obtain ⟨w2, h1, h2, h3⟩ := storeElem_run (P := P) (N := N) (t := 31) (ty := ty) (pos := pos) (after := after) (gd := gd) (i := i) (u := v.cells) (L := L.map Nb.cells) (base := base) (g := g) (cap := cap) hx hy (by rw [hp, add_blk, Nat.zero_add]) (by rw [hm]; exact o) (by rw [hm]; exact hi) OneAll.h a ha w' hw
  refine ⟨w2, h1, ⟨?_, List.length_set ..⟩, h3⟩
  rw [List.map_set]
  rw [hm] at h2; exact h2
end
/-- What a function that sorts leaves. -/
def DatR (base g n cap : Nat) (R : List Nb → Prop) (r : Value) (w' : World) : Prop := r = .tuple #[] ∧ ∃ L', Dat w' base g n cap L' ∧ R L'
abbrev Blk1 (g : Nat) : Nat → Prop := fun c => c = g
section
variable {base g n cap : Nat} {fv : Value}
set_option maxHeartbeats 1000000 in
theorem swapRange_v (L : List Nb) (a b k : Nat) (w : World) (hD : Dat w base g n cap L) (hn : n ≤ 1000000000000) (hab : a + k ≤ b) (hb : b + k ≤ n) :
    Calls Try.prog 50 #[.slice (some ⟨g, 0, none⟩) n cap, .int .i64 a, .int .i64 b, .int .i64 k, fv] w
      (Does (Blk1 g) (DatR base g n cap (fun L' => L'.Perm L ∧ ∀ x, L'[x]? = swrF (fun x => L[x]?) a b k x)) w) := by
  refine V_enter (vs := [_, _, _, _, _]) Try.func50 rfl Try.ntmps50 (Nat.le_of_ble_eq_true rfl) ?_
  repeat (first | (apply Ops_q; (case hon => (first | exact on_none | exact on_guard rfl rfl)); (case hd => rfl); (case hq => exact YlA)) | refine V_seq ?_ | refine V_block ?_ | refine V_region ?_ | refine V_region_still rfl (by kernel_rfl) (by kernel_rfl) ?_ | refine V_skip ?_ | refine V_ret ?_ | refine V_exit ?_ | refine V_true rfl ?_ | refine V_false rfl ?_ | refine then_normal ?_ | refine then_ret ?_ | refine then_exit ?_ | refine block_normal ?_ | refine block_ret ?_ | refine block_hit ?_ | refine block_miss rfl ?_ | refine Ops_end rfl ?_ | (refine Ops_off ?_ rfl ?_; focus (first | exact off_guard rfl rfl rfl | exact off_undef rfl rfl)) | (apply Ops_q0; (case hon => exact on_none); (case hq => exact Yl_assign rfl)))
  refine V_loop (fun s : Nat × List Nb => [(10, .int .i64 s.1), (0, .slice (some ⟨g, 0, none⟩) n cap), (1, .int .i64 a), (2, .int .i64 b), (3, .int .i64 k)])
    (fun s w' => s.1 ≤ k ∧ Mod (Blk1 g) w w' ∧ Dat w' base g n cap s.2 ∧ s.2.Perm L ∧ ∀ x, s.2[x]? = swrF (fun x => L[x]?) a b s.1 x) (fun s => k - s.1) (0, L) (by repeat (first | exact trivial | refine ⟨rfl, ?_⟩))
    ⟨Nat.zero_le _, .of_ext (Ext.refl _), hD, .refl _, fun x => by rw [swrF, if_neg (by omega), if_neg (by omega)]⟩ ?_
  rintro ⟨i, M⟩ w3 ⟨hi, m3, D3, hp, hf⟩
  dsimp only at hi D3 hp hf ⊢
  repeat (first | (apply Ops_q; (case hon => (first | exact on_none | exact on_guard rfl rfl)); (case hd => rfl); (case hq => exact YlA)) | refine V_seq ?_ | refine V_block ?_ | refine V_region ?_ | refine V_region_still rfl (by kernel_rfl) (by kernel_rfl) ?_ | refine V_skip ?_ | refine V_ret ?_ | refine V_exit ?_ | refine V_true rfl ?_ | refine V_false rfl ?_ | refine then_normal ?_ | refine then_ret ?_ | refine then_exit ?_ | refine block_normal ?_ | refine block_ret ?_ | refine block_hit ?_ | refine block_miss rfl ?_ | refine Ops_end rfl ?_ | (refine Ops_off ?_ rfl ?_; focus (first | exact off_guard rfl rfl rfl | exact off_undef rfl rfl)) | (apply Ops_q0; (case hon => exact on_none); (case hq => exact Yl_assign rfl)))
  refine V_cond rfl (fun hg => ?_) (fun hg => ?_)
  · replace hg := of_decide_eq_true hg
    have hik : i < k := by omega
    have hMl := D3.len
    obtain ⟨x, hx⟩ := D3.get (k := a + i) (by omega)
    obtain ⟨y, hy⟩ := D3.get (k := b + i) (by omega)
    have hcx := D3.at hx
    have hcy := D3.at hy
    repeat (first | (apply Ops_q; (case hon => (first | exact on_none | exact on_guard rfl rfl)); (case hd => rfl); (case hq => exact YlA)) | refine V_seq ?_ | refine V_block ?_ | refine V_region ?_ | refine V_skip ?_ | refine V_ret ?_ | refine V_exit ?_ | refine V_true rfl ?_ | refine V_false rfl ?_ | refine then_normal ?_ | refine then_ret ?_ | refine then_exit ?_ | refine block_normal ?_ | refine block_ret ?_ | refine block_hit ?_ | refine block_miss rfl ?_ | refine Ops_end rfl ?_ | (refine Ops_off ?_ rfl ?_; focus (first | exact off_guard rfl rfl rfl | exact off_undef rfl rfl)) | (apply Ops_q0; (case hon => exact on_none); (case hq => exact Yl_assign rfl)))
    refine V_store (R := fun w' => Dat w' base g n cap (M.set (a + i) y) ∧ Mod (fun c => c = g) w3 w') 22 21 (fun _ _ he h => ⟨h.1.ext he, h.2.ext he⟩) (by kernel_rfl) rfl (by kernel_rfl) ?_
    repeat (first
      | (refine YsS.pure rfl rfl rfl rfl rfl (fun w_ => (by first | exact Yl_move rfl | exact Yl_arith_in rfl rfl rfl (by first | assumption | (simp only [InK]; omega)))) ?_)
      | (refine YsS.load rfl rfl rfl rfl rfl (by first | exact Yl_loadN rfl hcx inferInstance | exact Yl_loadN rfl hcy inferInstance) ?_))
    refine YsS.pure rfl rfl rfl rfl rfl (fun w_ => Yl_indexS (j := (b+i)) rfl rfl (by omega)) ?_
    repeat (first
      | (refine YsS.pure rfl rfl rfl rfl rfl (fun w_ => (by first | exact Yl_move rfl | exact Yl_arith_in rfl rfl rfl (by first | assumption | (simp only [InK]; omega)))) ?_)
      | (refine YsS.load rfl rfl rfl rfl rfl (by first | exact Yl_loadN rfl hcx inferInstance | exact Yl_loadN rfl hcy inferInstance) ?_))
    refine YsS.pure rfl rfl rfl rfl rfl (fun w_ => Yl_indexS (j := (a+i)) rfl rfl (by omega)) ?_
    repeat (first
      | (refine YsS.pure rfl rfl rfl rfl rfl (fun w_ => (by first | exact Yl_move rfl | exact Yl_arith_in rfl rfl rfl (by first | assumption | (simp only [InK]; omega)))) ?_)
      | (refine YsS.load rfl rfl rfl rfl rfl (by first | exact Yl_loadN rfl hcx inferInstance | exact Yl_loadN rfl hcy inferInstance) ?_))
    refine YsS.pure rfl rfl rfl rfl rfl (fun w_ => Yl_indexS (j := (a+i)) rfl rfl (by omega)) ?_
    repeat (first
      | (refine YsS.pure rfl rfl rfl rfl rfl (fun w_ => (by first | exact Yl_move rfl | exact Yl_arith_in rfl rfl rfl (by first | assumption | (simp only [InK]; omega)))) ?_)
      | (refine YsS.load rfl rfl rfl rfl rfl (by first | exact Yl_loadN rfl hcx inferInstance | exact Yl_loadN rfl hcy inferInstance) ?_))
    refine YsS.nil rfl ⟨fun a_ ag_ w_ hw_ => storeDat_run (i := a+i) (v := y) rfl rfl rfl D3 (by omega) a_ ag_ w_ hw_, ?_⟩
    repeat (first
      | (refine YsS.pure rfl rfl rfl rfl rfl (fun w_ => (by first | exact Yl_move rfl | exact Yl_arith_in rfl rfl rfl (by first | assumption | (simp only [InK]; omega)))) ?_)
      | (refine YsS.load rfl rfl rfl rfl rfl (by first | exact Yl_loadN rfl hcx inferInstance | exact Yl_loadN rfl hcy inferInstance) ?_))
    refine YsS.nil rfl ?_
    rintro w4 ⟨D4, m4⟩
    repeat (first | (apply Ops_q; (case hon => (first | exact on_none | exact on_guard rfl rfl)); (case hd => rfl); (case hq => exact YlA)) | refine V_seq ?_ | refine V_block ?_ | refine V_region ?_ | refine V_region_still rfl (by kernel_rfl) (by kernel_rfl) ?_ | refine V_skip ?_ | refine V_ret ?_ | refine V_exit ?_ | refine V_true rfl ?_ | refine V_false rfl ?_ | refine then_normal ?_ | refine then_ret ?_ | refine then_exit ?_ | refine block_normal ?_ | refine block_ret ?_ | refine block_hit ?_ | refine block_miss rfl ?_ | refine Ops_end rfl ?_ | (refine Ops_off ?_ rfl ?_; focus (first | exact off_guard rfl rfl rfl | exact off_undef rfl rfl)) | (apply Ops_q0; (case hon => exact on_none); (case hq => exact Yl_assign rfl)))
    (apply Ops_q; (case hon => (first | exact on_none | exact on_guard rfl rfl)); (case hd => rfl); (case hq => exact Yl_indexS (j := (b+i)) rfl rfl (by omega)))
    repeat (first | (apply Ops_q; (case hon => (first | exact on_none | exact on_guard rfl rfl)); (case hd => rfl); (case hq => exact YlA)) | refine V_seq ?_ | refine V_block ?_ | refine V_region ?_ | refine V_region_still rfl (by kernel_rfl) (by kernel_rfl) ?_ | refine V_skip ?_ | refine V_ret ?_ | refine V_exit ?_ | refine V_true rfl ?_ | refine V_false rfl ?_ | refine then_normal ?_ | refine then_ret ?_ | refine then_exit ?_ | refine block_normal ?_ | refine block_ret ?_ | refine block_hit ?_ | refine block_miss rfl ?_ | refine Ops_end rfl ?_ | (refine Ops_off ?_ rfl ?_; focus (first | exact off_guard rfl rfl rfl | exact off_undef rfl rfl)) | (apply Ops_q0; (case hon => exact on_none); (case hq => exact Yl_assign rfl)))
    refine Ops_storeDat (i := b+i) (v := x) (by first | exact on_none | exact on_guard rfl rfl) rfl rfl rfl D4 (by omega) ?_
    intro w5 D5 g5
    have m5 : Mod (Blk1 g) w w5 := (m3.trans m4).grow g5 (fun b hb => .inl (by cases hb; rfl))
    have hsw : (M.set (a+i) y).set (b+i) x = swp M (a+i) (b+i) := by unfold swp; rw [hx, hy]
    rw [hsw] at D5
    repeat (first | (apply Ops_q; (case hon => (first | exact on_none | exact on_guard rfl rfl)); (case hd => rfl); (case hq => exact YlA)) | refine V_seq ?_ | refine V_block ?_ | refine V_region ?_ | refine V_region_still rfl (by kernel_rfl) (by kernel_rfl) ?_ | refine V_skip ?_ | refine V_ret ?_ | refine V_exit ?_ | refine V_true rfl ?_ | refine V_false rfl ?_ | refine then_normal ?_ | refine then_ret ?_ | refine then_exit ?_ | refine block_normal ?_ | refine block_ret ?_ | refine block_hit ?_ | refine block_miss rfl ?_ | refine Ops_end rfl ?_ | (refine Ops_off ?_ rfl ?_; focus (first | exact off_guard rfl rfl rfl | exact off_undef rfl rfl)) | (apply Ops_q0; (case hon => exact on_none); (case hq => exact Yl_assign rfl)))
    refine ⟨(i + 1, swp M (a + i) (b + i)), (by repeat (first | exact trivial | refine ⟨rfl, ?_⟩)), ⟨hik, m5, D5, (swp_perm (by omega) (by omega)).trans hp, fun x => swr_step (n := k) hab hik hf (by omega) x⟩, by simp only; omega⟩
  · replace hg := of_decide_eq_false hg
    obtain rfl : i = k := by omega
    repeat (first | (apply Ops_q; (case hon => (first | exact on_none | exact on_guard rfl rfl)); (case hd => rfl); (case hq => exact YlA)) | refine V_seq ?_ | refine V_block ?_ | refine V_region ?_ | refine V_region_still rfl (by kernel_rfl) (by kernel_rfl) ?_ | refine V_skip ?_ | refine V_ret ?_ | refine V_exit ?_ | refine V_true rfl ?_ | refine V_false rfl ?_ | refine then_normal ?_ | refine then_ret ?_ | refine then_exit ?_ | refine block_normal ?_ | refine block_ret ?_ | refine block_hit ?_ | refine block_miss rfl ?_ | refine Ops_end rfl ?_ | (refine Ops_off ?_ rfl ?_; focus (first | exact off_guard rfl rfl rfl | exact off_undef rfl rfl)) | (apply Ops_q0; (case hon => exact on_none); (case hq => exact Yl_assign rfl)))
    refine ret0 (by first | exact .inl rfl | exact .inr rfl) rfl ?_
    exact Does_mk (fun w' he => ⟨rfl, M, D3.ext he, hp, hf⟩) m3
set_option maxHeartbeats 1000000 in
theorem rotate_v (L : List Nb) (a m b : Nat) (w : World) (hD : Dat w base g n cap L) (hn : n ≤ 1000000000000) (ham : a < m) (hmb : m < b) (hb : b ≤ n) :
    Calls Try.prog 49 #[.slice (some ⟨g, 0, none⟩) n cap, .int .i64 a, .int .i64 m, .int .i64 b, fv] w
      (Does (Blk1 g) (DatR base g n cap (fun L' => L'.Perm L ∧ ∀ x, L'[x]? = rotF (fun x => L[x]?) a m b x)) w) := by
  have e1 : (m : Int) - (a : Int) = ((m - a : Nat) : Int) := by omega
  have e2 : (b : Int) - (m : Int) = ((b - m : Nat) : Int) := by omega
  refine V_enter (vs := [_, _, _, _, _]) Try.func49 rfl Try.ntmps49 (Nat.le_of_ble_eq_true rfl) ?_
  repeat (first | (apply Ops_q; (case hon => (first | exact on_none | exact on_guard rfl rfl)); (case hd => rfl); (case hq => exact YlA)) | refine V_seq ?_ | refine V_block ?_ | refine V_region ?_ | refine V_region_still rfl (by kernel_rfl) (by kernel_rfl) ?_ | refine V_skip ?_ | refine V_ret ?_ | refine V_exit ?_ | refine V_true rfl ?_ | refine V_false rfl ?_ | refine then_normal ?_ | refine then_ret ?_ | refine then_exit ?_ | refine block_normal ?_ | refine block_ret ?_ | refine block_hit ?_ | refine block_miss rfl ?_ | refine Ops_end rfl ?_ | (refine Ops_off ?_ rfl ?_; focus (first | exact off_guard rfl rfl rfl | exact off_undef rfl rfl)) | (apply Ops_q0; (case hon => exact on_none); (case hq => exact Yl_assign rfl)))
  rw [e1, e2]
  refine V_loop (fun s : Nat × Nat × List Nb => [(10, .int .i64 s.1), (11, .int .i64 s.2.1), (0, .slice (some ⟨g, 0, none⟩) n cap), (2, .int .i64 m), (4, fv)])
    (fun s w' => 0 < s.1 ∧ s.1 ≤ m ∧ 0 < s.2.1 ∧ m + s.2.1 ≤ n ∧ Mod (Blk1 g) w w' ∧ Dat w' base g n cap s.2.2 ∧ s.2.2.Perm L ∧ ∀ x, rotF (fun x => s.2.2[x]?) (m - s.1) m (m + s.2.1) x = rotF (fun x => L[x]?) a m b x) (fun s => s.1 + s.2.1) (m - a, b - m, L) (by repeat (first | exact trivial | refine ⟨rfl, ?_⟩))
    ⟨by dsimp only; omega, by dsimp only; omega, by dsimp only; omega, by dsimp only; omega, .of_ext (Ext.refl _), hD, .refl _, fun x => by dsimp only; rw [show m - (m - a) = a by omega, show m + (b - m) = b by omega]⟩ ?_
  rintro ⟨i, j, M⟩ w3 ⟨h1, h2, h3, h4, m3, D3, hp, hf⟩
  dsimp only at h1 h2 h3 h4 D3 hp hf ⊢
  have e3 : (m : Int) - (i : Int) = ((m - i : Nat) : Int) := by omega
  repeat (first | (apply Ops_q; (case hon => (first | exact on_none | exact on_guard rfl rfl)); (case hd => rfl); (case hq => exact YlA)) | refine V_seq ?_ | refine V_block ?_ | refine V_region ?_ | refine V_region_still rfl (by kernel_rfl) (by kernel_rfl) ?_ | refine V_skip ?_ | refine V_ret ?_ | refine V_exit ?_ | refine V_true rfl ?_ | refine V_false rfl ?_ | refine then_normal ?_ | refine then_ret ?_ | refine then_exit ?_ | refine block_normal ?_ | refine block_ret ?_ | refine block_hit ?_ | refine block_miss rfl ?_ | refine Ops_end rfl ?_ | (refine Ops_off ?_ rfl ?_; focus (first | exact off_guard rfl rfl rfl | exact off_undef rfl rfl)) | (apply Ops_q0; (case hon => exact on_none); (case hq => exact Yl_assign rfl)))
  refine V_cond rfl (fun hg => ?_) (fun hg => ?_)
  · have hij : i ≠ j := by
      have : ¬((i : Int) = (j : Int)) := by simpa using hg
      omega
    repeat (first | (apply Ops_q; (case hon => (first | exact on_none | exact on_guard rfl rfl)); (case hd => rfl); (case hq => exact YlA)) | refine V_seq ?_ | refine V_block ?_ | refine V_region ?_ | refine V_region_still rfl (by kernel_rfl) (by kernel_rfl) ?_ | refine V_skip ?_ | refine V_ret ?_ | refine V_exit ?_ | refine V_true rfl ?_ | refine V_false rfl ?_ | refine then_normal ?_ | refine then_ret ?_ | refine then_exit ?_ | refine block_normal ?_ | refine block_ret ?_ | refine block_hit ?_ | refine block_miss rfl ?_ | refine Ops_end rfl ?_ | (refine Ops_off ?_ rfl ?_; focus (first | exact off_guard rfl rfl rfl | exact off_undef rfl rfl)) | (apply Ops_q0; (case hon => exact on_none); (case hq => exact Yl_assign rfl)))
    refine V_cond rfl (fun hg2 => ?_) (fun hg2 => ?_)
    · replace hg2 := of_decide_eq_true hg2
      have hlt : j < i := by omega
      have e4 : (i : Int) - (j : Int) = ((i - j : Nat) : Int) := by omega
      repeat (first | (apply Ops_q; (case hon => (first | exact on_none | exact on_guard rfl rfl)); (case hd => rfl); (case hq => exact YlA)) | refine V_seq ?_ | refine V_block ?_ | refine V_region ?_ | refine V_region_still rfl (by kernel_rfl) (by kernel_rfl) ?_ | refine V_skip ?_ | refine V_ret ?_ | refine V_exit ?_ | refine V_true rfl ?_ | refine V_false rfl ?_ | refine then_normal ?_ | refine then_ret ?_ | refine then_exit ?_ | refine block_normal ?_ | refine block_ret ?_ | refine block_hit ?_ | refine block_miss rfl ?_ | refine Ops_end rfl ?_ | (refine Ops_off ?_ rfl ?_; focus (first | exact off_guard rfl rfl rfl | exact off_undef rfl rfl)) | (apply Ops_q0; (case hon => exact on_none); (case hq => exact Yl_assign rfl)))
      rw [e3]
      refine Ops_callM (S := Blk1 g) (R := fun _ => DatR base g n cap (fun L' => L'.Perm M ∧ ∀ x, L'[x]? = swrF (fun x => M[x]?) (m - i) m j x)) (by first | exact on_none | exact on_guard rfl rfl) rfl rfl (fun w_ e_ => swapRange_v M (m - i) m j w_ (D3.ext e_) hn (by omega) (by omega)) ?_
      intro r w4 w0_ e0 m4 hR
      obtain ⟨rfl, M', D4, hp4, hf4⟩ := hR
      repeat (first | (apply Ops_q; (case hon => (first | exact on_none | exact on_guard rfl rfl)); (case hd => rfl); (case hq => exact YlA)) | refine V_seq ?_ | refine V_block ?_ | refine V_region ?_ | refine V_region_still rfl (by kernel_rfl) (by kernel_rfl) ?_ | refine V_skip ?_ | refine V_ret ?_ | refine V_exit ?_ | refine V_true rfl ?_ | refine V_false rfl ?_ | refine then_normal ?_ | refine then_ret ?_ | refine then_exit ?_ | refine block_normal ?_ | refine block_ret ?_ | refine block_hit ?_ | refine block_miss rfl ?_ | refine Ops_end rfl ?_ | (refine Ops_off ?_ rfl ?_; focus (first | exact off_guard rfl rfl rfl | exact off_undef rfl rfl)) | (apply Ops_q0; (case hon => exact on_none); (case hq => exact Yl_assign rfl)))
      rw [e4]
      refine ⟨(i - j, j, M'), (by repeat (first | exact trivial | refine ⟨rfl, ?_⟩)), ⟨by dsimp only; omega, by dsimp only; omega, h3, h4, (m3.ext e0).trans m4, D4, hp4.trans hp, fun x => (rot_big h2 hlt hf4 x).trans (hf x)⟩, by simp only; omega⟩
    · replace hg2 := of_decide_eq_false hg2
      have hlt : i < j := by omega
      have e4 : (j : Int) - (i : Int) = ((j - i : Nat) : Int) := by omega
      have e5 : (m : Int) + (j : Int) - (i : Int) = ((m + j - i : Nat) : Int) := by omega
      repeat (first | (apply Ops_q; (case hon => (first | exact on_none | exact on_guard rfl rfl)); (case hd => rfl); (case hq => exact YlA)) | refine V_seq ?_ | refine V_block ?_ | refine V_region ?_ | refine V_region_still rfl (by kernel_rfl) (by kernel_rfl) ?_ | refine V_skip ?_ | refine V_ret ?_ | refine V_exit ?_ | refine V_true rfl ?_ | refine V_false rfl ?_ | refine then_normal ?_ | refine then_ret ?_ | refine then_exit ?_ | refine block_normal ?_ | refine block_ret ?_ | refine block_hit ?_ | refine block_miss rfl ?_ | refine Ops_end rfl ?_ | (refine Ops_off ?_ rfl ?_; focus (first | exact off_guard rfl rfl rfl | exact off_undef rfl rfl)) | (apply Ops_q0; (case hon => exact on_none); (case hq => exact Yl_assign rfl)))
      rw [e3, e5]
      refine Ops_callM (S := Blk1 g) (R := fun _ => DatR base g n cap (fun L' => L'.Perm M ∧ ∀ x, L'[x]? = swrF (fun x => M[x]?) (m - i) (m + j - i) i x)) (by first | exact on_none | exact on_guard rfl rfl) rfl rfl (fun w_ e_ => swapRange_v M (m - i) (m + j - i) i w_ (D3.ext e_) hn (by omega) (by omega)) ?_
      intro r w4 w0_ e0 m4 hR
      obtain ⟨rfl, M', D4, hp4, hf4⟩ := hR
      repeat (first | (apply Ops_q; (case hon => (first | exact on_none | exact on_guard rfl rfl)); (case hd => rfl); (case hq => exact YlA)) | refine V_seq ?_ | refine V_block ?_ | refine V_region ?_ | refine V_region_still rfl (by kernel_rfl) (by kernel_rfl) ?_ | refine V_skip ?_ | refine V_ret ?_ | refine V_exit ?_ | refine V_true rfl ?_ | refine V_false rfl ?_ | refine then_normal ?_ | refine then_ret ?_ | refine then_exit ?_ | refine block_normal ?_ | refine block_ret ?_ | refine block_hit ?_ | refine block_miss rfl ?_ | refine Ops_end rfl ?_ | (refine Ops_off ?_ rfl ?_; focus (first | exact off_guard rfl rfl rfl | exact off_undef rfl rfl)) | (apply Ops_q0; (case hon => exact on_none); (case hq => exact Yl_assign rfl)))
      rw [e4]
      refine ⟨(i, j - i, M'), (by repeat (first | exact trivial | refine ⟨rfl, ?_⟩)), ⟨h1, h2, by dsimp only; omega, by dsimp only; omega, (m3.ext e0).trans m4, D4, hp4.trans hp, fun x => (rot_small h2 hlt hf4 x).trans (hf x)⟩, by simp only; omega⟩
  · have hij : i = j := by
      have : (i : Int) = (j : Int) := by simpa using hg
      omega
    subst hij
    repeat (first | (apply Ops_q; (case hon => (first | exact on_none | exact on_guard rfl rfl)); (case hd => rfl); (case hq => exact YlA)) | refine V_seq ?_ | refine V_block ?_ | refine V_region ?_ | refine V_region_still rfl (by kernel_rfl) (by kernel_rfl) ?_ | refine V_skip ?_ | refine V_ret ?_ | refine V_exit ?_ | refine V_true rfl ?_ | refine V_false rfl ?_ | refine then_normal ?_ | refine then_ret ?_ | refine then_exit ?_ | refine block_normal ?_ | refine block_ret ?_ | refine block_hit ?_ | refine block_miss rfl ?_ | refine Ops_end rfl ?_ | (refine Ops_off ?_ rfl ?_; focus (first | exact off_guard rfl rfl rfl | exact off_undef rfl rfl)) | (apply Ops_q0; (case hon => exact on_none); (case hq => exact Yl_assign rfl)))
    rw [e3]
    refine Ops_callM (S := Blk1 g) (R := fun _ => DatR base g n cap (fun L' => L'.Perm M ∧ ∀ x, L'[x]? = swrF (fun x => M[x]?) (m - i) m i x)) (by first | exact on_none | exact on_guard rfl rfl) rfl rfl (fun w_ e_ => swapRange_v M (m - i) m i w_ (D3.ext e_) hn (by omega) (by omega)) ?_
    intro r w4 w0_ e0 m4 hR
    obtain ⟨rfl, M', D4, hp4, hf4⟩ := hR
    repeat (first | (apply Ops_q; (case hon => (first | exact on_none | exact on_guard rfl rfl)); (case hd => rfl); (case hq => exact YlA)) | refine V_seq ?_ | refine V_block ?_ | refine V_region ?_ | refine V_region_still rfl (by kernel_rfl) (by kernel_rfl) ?_ | refine V_skip ?_ | refine V_ret ?_ | refine V_exit ?_ | refine V_true rfl ?_ | refine V_false rfl ?_ | refine then_normal ?_ | refine then_ret ?_ | refine then_exit ?_ | refine block_normal ?_ | refine block_ret ?_ | refine block_hit ?_ | refine block_miss rfl ?_ | refine Ops_end rfl ?_ | (refine Ops_off ?_ rfl ?_; focus (first | exact off_guard rfl rfl rfl | exact off_undef rfl rfl)) | (apply Ops_q0; (case hon => exact on_none); (case hq => exact Yl_assign rfl)))
    refine ret0 (by first | exact .inl rfl | exact .inr rfl) rfl ?_
    exact Does_mk (fun w' he => ⟨rfl, M', D4.ext he, hp4.trans hp, fun x => (rot_end h2 hf4 x).trans (hf x)⟩) ((m3.ext e0).trans m4)
variable {f : FuncId} [TFun Try.prog f] {cf : Nb → Nb → Int}
set_option maxHeartbeats 1000000 in
theorem insertionSort_v (ho : Ord cf) (hcf : ∀ x y w', Calls Try.prog f #[x.val, y.val] w' (Ret (.int .i64 (cf x y)) w')) (L : List Nb) (a b : Nat) (w : World) (hD : Dat w base g n cap L) (hn : n ≤ 1000000000000) (hb : b ≤ n) (ha : a ≤ n) :
    Calls Try.prog 46 #[.slice (some ⟨g, 0, none⟩) n cap, .int .i64 a, .int .i64 b, .func (.func f) #[] #[]] w
      (Does (Blk1 g) (DatR base g n cap (fun L' => Moved L L' a b ∧ Asc cf L' a b)) w) := by
  refine V_enter (vs := [_, _, _, _]) Try.func46 rfl Try.ntmps46 (Nat.le_of_ble_eq_true rfl) ?_
  repeat (first | (apply Ops_q; (case hon => (first | exact on_none | exact on_guard rfl rfl)); (case hd => rfl); (case hq => exact YlA)) | refine V_seq ?_ | refine V_block ?_ | refine V_region ?_ | refine V_region_still rfl (by kernel_rfl) (by kernel_rfl) ?_ | refine V_skip ?_ | refine V_ret ?_ | refine V_exit ?_ | refine V_true rfl ?_ | refine V_false rfl ?_ | refine then_normal ?_ | refine then_ret ?_ | refine then_exit ?_ | refine block_normal ?_ | refine block_ret ?_ | refine block_hit ?_ | refine block_miss rfl ?_ | refine Ops_end rfl ?_ | (refine Ops_off ?_ rfl ?_; focus (first | exact off_guard rfl rfl rfl | exact off_undef rfl rfl)) | (apply Ops_q0; (case hon => exact on_none); (case hq => exact Yl_assign rfl)))
  refine V_loop (fun s : Nat × List Nb => [(8, .int .i64 s.1), (0, .slice (some ⟨g, 0, none⟩) n cap), (1, .int .i64 a), (2, .int .i64 b), (3, .func (.func f) #[] #[])])
    (fun s w' => a + 1 ≤ s.1 ∧ (s.1 ≤ b ∨ s.1 = a + 1) ∧ Mod (Blk1 g) w w' ∧ Dat w' base g n cap s.2 ∧ Moved L s.2 a b ∧ Asc cf s.2 a s.1) (fun s => b - s.1) (a + 1, L) (by repeat (first | exact trivial | refine ⟨rfl, ?_⟩))
    ⟨Nat.le_refl _, .inr rfl, .of_ext (Ext.refl _), hD, Moved.refl .., Asc.one (Nat.le_refl _)⟩ ?_
  rintro ⟨i, M⟩ w3 ⟨h1, h2, m3, D3, hM, hA⟩
  dsimp only at h1 h2 D3 hM hA ⊢
  repeat (first | (apply Ops_q; (case hon => (first | exact on_none | exact on_guard rfl rfl)); (case hd => rfl); (case hq => exact YlA)) | refine V_seq ?_ | refine V_block ?_ | refine V_region ?_ | refine V_region_still rfl (by kernel_rfl) (by kernel_rfl) ?_ | refine V_skip ?_ | refine V_ret ?_ | refine V_exit ?_ | refine V_true rfl ?_ | refine V_false rfl ?_ | refine then_normal ?_ | refine then_ret ?_ | refine then_exit ?_ | refine block_normal ?_ | refine block_ret ?_ | refine block_hit ?_ | refine block_miss rfl ?_ | refine Ops_end rfl ?_ | (refine Ops_off ?_ rfl ?_; focus (first | exact off_guard rfl rfl rfl | exact off_undef rfl rfl)) | (apply Ops_q0; (case hon => exact on_none); (case hq => exact Yl_assign rfl)))
  refine V_cond rfl (fun hg => ?_) (fun hg => ?_)
  · replace hg := of_decide_eq_true hg
    have hib : i < b := by omega
    repeat (first | (apply Ops_q; (case hon => (first | exact on_none | exact on_guard rfl rfl)); (case hd => rfl); (case hq => exact YlA)) | refine V_seq ?_ | refine V_block ?_ | refine V_region ?_ | refine V_region_still rfl (by kernel_rfl) (by kernel_rfl) ?_ | refine V_skip ?_ | refine V_ret ?_ | refine V_exit ?_ | refine V_true rfl ?_ | refine V_false rfl ?_ | refine then_normal ?_ | refine then_ret ?_ | refine then_exit ?_ | refine block_normal ?_ | refine block_ret ?_ | refine block_hit ?_ | refine block_miss rfl ?_ | refine Ops_end rfl ?_ | (refine Ops_off ?_ rfl ?_; focus (first | exact off_guard rfl rfl rfl | exact off_undef rfl rfl)) | (apply Ops_q0; (case hon => exact on_none); (case hq => exact Yl_assign rfl)))
    refine V_loop (fun s : Nat × List Nb => [(9, .int .i64 s.1), (8, .int .i64 i), (0, .slice (some ⟨g, 0, none⟩) n cap), (1, .int .i64 a), (2, .int .i64 b), (3, .func (.func f) #[] #[])])
      (fun s w' => a ≤ s.1 ∧ s.1 ≤ i ∧ Mod (Blk1 g) w w' ∧ Dat w' base g n cap s.2 ∧ Moved L s.2 a b ∧ AscX cf s.2 a (i + 1) s.1) (fun s => s.1) (i, M) (by repeat (first | exact trivial | refine ⟨rfl, ?_⟩))
      ⟨by dsimp only; omega, Nat.le_refl _, m3, D3, hM, AscX.start hA⟩ ?_
    clear m3 D3 hM hA
    rintro ⟨j, M⟩ w3 ⟨h3, h4, m3, D3, hM, hA⟩
    dsimp only at h3 h4 D3 hM hA ⊢
    have hMl := D3.len
    by_cases hj : a < j
    · obtain ⟨p, rfl⟩ : ∃ p, j = p + 1 := ⟨j - 1, by omega⟩
      have hd : decide ((a : Int) < ((p + 1 : Nat) : Int)) = true := decide_eq_true (by omega)
      have hs1 : ((p + 1 : Nat) : Int) - 1 = (p : Int) := by omega
      obtain ⟨x, hx⟩ := D3.get (k := p + 1) (by omega)
      obtain ⟨y, hy⟩ := D3.get (k := p) (by omega)
      have hcx := D3.at hx
      have hcy := D3.at hy
      repeat (first | (apply Ops_q; (case hon => (first | exact on_none | exact on_guard rfl rfl)); (case hd => rfl); (case hq => exact YlA)) | refine V_seq ?_ | refine V_block ?_ | refine V_region ?_ | refine V_region_still rfl (by kernel_rfl) (by kernel_rfl) ?_ | refine V_skip ?_ | refine V_ret ?_ | refine V_exit ?_ | refine V_true rfl ?_ | refine V_false rfl ?_ | refine then_normal ?_ | refine then_ret ?_ | refine then_exit ?_ | refine block_normal ?_ | refine block_ret ?_ | refine block_hit ?_ | refine block_miss rfl ?_ | refine Ops_end rfl ?_ | (refine Ops_off ?_ rfl ?_; focus (first | exact off_guard rfl rfl rfl | exact off_undef rfl rfl)) | (apply Ops_q0; (case hon => exact on_none); (case hq => exact Yl_assign rfl)))
      refine Ops_know rfl rfl hd ?_
      repeat (first | (apply Ops_q; (case hon => (first | exact on_none | exact on_guard rfl rfl)); (case hd => rfl); (case hq => exact YlA)) | refine V_seq ?_ | refine V_block ?_ | refine V_region ?_ | refine V_region_still rfl (by kernel_rfl) (by kernel_rfl) ?_ | refine V_skip ?_ | refine V_ret ?_ | refine V_exit ?_ | refine V_true rfl ?_ | refine V_false rfl ?_ | refine then_normal ?_ | refine then_ret ?_ | refine then_exit ?_ | refine block_normal ?_ | refine block_ret ?_ | refine block_hit ?_ | refine block_miss rfl ?_ | refine Ops_end rfl ?_ | (refine Ops_off ?_ rfl ?_; focus (first | exact off_guard rfl rfl rfl | exact off_undef rfl rfl)) | (apply Ops_q0; (case hon => exact on_none); (case hq => exact Yl_assign rfl)))
      (apply Ops_q; (case hon => (first | exact on_none | exact on_guard rfl rfl)); (case hd => rfl); (case hq => exact Yl_indexS (j := (p+1)) rfl rfl (by omega)))
      repeat (first | (apply Ops_q; (case hon => (first | exact on_none | exact on_guard rfl rfl)); (case hd => rfl); (case hq => exact YlA)) | refine V_seq ?_ | refine V_block ?_ | refine V_region ?_ | refine V_region_still rfl (by kernel_rfl) (by kernel_rfl) ?_ | refine V_skip ?_ | refine V_ret ?_ | refine V_exit ?_ | refine V_true rfl ?_ | refine V_false rfl ?_ | refine then_normal ?_ | refine then_ret ?_ | refine then_exit ?_ | refine block_normal ?_ | refine block_ret ?_ | refine block_hit ?_ | refine block_miss rfl ?_ | refine Ops_end rfl ?_ | (refine Ops_off ?_ rfl ?_; focus (first | exact off_guard rfl rfl rfl | exact off_undef rfl rfl)) | (apply Ops_q0; (case hon => exact on_none); (case hq => exact Yl_assign rfl)))
      rw [hs1]
      (apply Ops_q; (case hon => (first | exact on_none | exact on_guard rfl rfl)); (case hd => rfl); (case hq => exact Yl_indexS (j := p) rfl rfl (by omega)))
      repeat (first | (apply Ops_q; (case hon => (first | exact on_none | exact on_guard rfl rfl)); (case hd => rfl); (case hq => exact YlA)) | refine V_seq ?_ | refine V_block ?_ | refine V_region ?_ | refine V_region_still rfl (by kernel_rfl) (by kernel_rfl) ?_ | refine V_skip ?_ | refine V_ret ?_ | refine V_exit ?_ | refine V_true rfl ?_ | refine V_false rfl ?_ | refine then_normal ?_ | refine then_ret ?_ | refine then_exit ?_ | refine block_normal ?_ | refine block_ret ?_ | refine block_hit ?_ | refine block_miss rfl ?_ | refine Ops_end rfl ?_ | (refine Ops_off ?_ rfl ?_; focus (first | exact off_guard rfl rfl rfl | exact off_undef rfl rfl)) | (apply Ops_q0; (case hon => exact on_none); (case hq => exact Yl_assign rfl)))
      (apply Ops_q; (case hon => first | exact on_none | exact on_guard rfl rfl); (case hd => rfl); (case hq => exact Yl_callv (first := []) (vs := [x.val, y.val]) (cap := []) rfl rfl (fun w_ e_ => hcf _ _ w_)))
      repeat (first | (apply Ops_q; (case hon => (first | exact on_none | exact on_guard rfl rfl)); (case hd => rfl); (case hq => exact YlA)) | refine V_seq ?_ | refine V_block ?_ | refine V_region ?_ | refine V_region_still rfl (by kernel_rfl) (by kernel_rfl) ?_ | refine V_skip ?_ | refine V_ret ?_ | refine V_exit ?_ | refine V_true rfl ?_ | refine V_false rfl ?_ | refine then_normal ?_ | refine then_ret ?_ | refine then_exit ?_ | refine block_normal ?_ | refine block_ret ?_ | refine block_hit ?_ | refine block_miss rfl ?_ | refine Ops_end rfl ?_ | (refine Ops_off ?_ rfl ?_; focus (first | exact off_guard rfl rfl rfl | exact off_undef rfl rfl)) | (apply Ops_q0; (case hon => exact on_none); (case hq => exact Yl_assign rfl)))
      refine V_cond rfl (fun hlt => ?_) (fun hlt => ?_)
      · replace hlt := of_decide_eq_true hlt
        repeat (first | (apply Ops_q; (case hon => (first | exact on_none | exact on_guard rfl rfl)); (case hd => rfl); (case hq => exact YlA)) | refine V_seq ?_ | refine V_block ?_ | refine V_region ?_ | refine V_skip ?_ | refine V_ret ?_ | refine V_exit ?_ | refine V_true rfl ?_ | refine V_false rfl ?_ | refine then_normal ?_ | refine then_ret ?_ | refine then_exit ?_ | refine block_normal ?_ | refine block_ret ?_ | refine block_hit ?_ | refine block_miss rfl ?_ | refine Ops_end rfl ?_ | (refine Ops_off ?_ rfl ?_; focus (first | exact off_guard rfl rfl rfl | exact off_undef rfl rfl)) | (apply Ops_q0; (case hon => exact on_none); (case hq => exact Yl_assign rfl)))
        refine V_store (R := fun w' => Dat w' base g n cap (M.set (p + 1) y) ∧ Mod (fun c => c = g) w3 w') 16 15 (fun _ _ he h => ⟨h.1.ext he, h.2.ext he⟩) (by kernel_rfl) rfl (by kernel_rfl) ?_
        repeat (first
          | (refine YsS.pure rfl rfl rfl rfl rfl (fun w_ => (by first | exact Yl_move rfl | exact Yl_pred rfl rfl (by omega) | exact Yl_arith_in rfl rfl rfl (by first | assumption | (simp only [InK]; omega)))) ?_)
          | (refine YsS.load rfl rfl rfl rfl rfl (by first | exact Yl_loadN rfl hcx inferInstance | exact Yl_loadN rfl hcy inferInstance) ?_))
        refine YsS.pure rfl rfl rfl rfl rfl (fun w_ => Yl_indexS (j := p) rfl rfl (by omega)) ?_
        repeat (first
          | (refine YsS.pure rfl rfl rfl rfl rfl (fun w_ => (by first | exact Yl_move rfl | exact Yl_pred rfl rfl (by omega) | exact Yl_arith_in rfl rfl rfl (by first | assumption | (simp only [InK]; omega)))) ?_)
          | (refine YsS.load rfl rfl rfl rfl rfl (by first | exact Yl_loadN rfl hcx inferInstance | exact Yl_loadN rfl hcy inferInstance) ?_))
        refine YsS.pure rfl rfl rfl rfl rfl (fun w_ => Yl_indexS (j := (p+1)) rfl rfl (by omega)) ?_
        repeat (first
          | (refine YsS.pure rfl rfl rfl rfl rfl (fun w_ => (by first | exact Yl_move rfl | exact Yl_pred rfl rfl (by omega) | exact Yl_arith_in rfl rfl rfl (by first | assumption | (simp only [InK]; omega)))) ?_)
          | (refine YsS.load rfl rfl rfl rfl rfl (by first | exact Yl_loadN rfl hcx inferInstance | exact Yl_loadN rfl hcy inferInstance) ?_))
        refine YsS.pure rfl rfl rfl rfl rfl (fun w_ => Yl_indexS (j := (p+1)) rfl rfl (by omega)) ?_
        refine YsS.nil rfl ⟨fun a_ ag_ w_ hw_ => storeDat_run (i := p+1) (v := y) rfl rfl rfl D3 (by omega) a_ ag_ w_ hw_, ?_⟩
        repeat (first
          | (refine YsS.pure rfl rfl rfl rfl rfl (fun w_ => (by first | exact Yl_move rfl | exact Yl_arith_in rfl rfl rfl (by first | assumption | (simp only [InK]; omega)))) ?_)
          | (refine YsS.load rfl rfl rfl rfl rfl (by first | exact Yl_loadN rfl hcx inferInstance | exact Yl_loadN rfl hcy inferInstance) ?_))
        refine YsS.nil rfl ?_
        rintro w4 ⟨D4, m4⟩
        repeat (first | (apply Ops_q; (case hon => (first | exact on_none | exact on_guard rfl rfl)); (case hd => rfl); (case hq => exact YlA)) | refine V_seq ?_ | refine V_block ?_ | refine V_region ?_ | refine V_region_still rfl (by kernel_rfl) (by kernel_rfl) ?_ | refine V_skip ?_ | refine V_ret ?_ | refine V_exit ?_ | refine V_true rfl ?_ | refine V_false rfl ?_ | refine then_normal ?_ | refine then_ret ?_ | refine then_exit ?_ | refine block_normal ?_ | refine block_ret ?_ | refine block_hit ?_ | refine block_miss rfl ?_ | refine Ops_end rfl ?_ | (refine Ops_off ?_ rfl ?_; focus (first | exact off_guard rfl rfl rfl | exact off_undef rfl rfl)) | (apply Ops_q0; (case hon => exact on_none); (case hq => exact Yl_assign rfl)))
        (apply Ops_q; (case hon => (first | exact on_none | exact on_guard rfl rfl)); (case hd => rfl); (case hq => exact Yl_indexS (j := (p)) rfl rfl (by omega)))
        repeat (first | (apply Ops_q; (case hon => (first | exact on_none | exact on_guard rfl rfl)); (case hd => rfl); (case hq => exact YlA)) | refine V_seq ?_ | refine V_block ?_ | refine V_region ?_ | refine V_region_still rfl (by kernel_rfl) (by kernel_rfl) ?_ | refine V_skip ?_ | refine V_ret ?_ | refine V_exit ?_ | refine V_true rfl ?_ | refine V_false rfl ?_ | refine then_normal ?_ | refine then_ret ?_ | refine then_exit ?_ | refine block_normal ?_ | refine block_ret ?_ | refine block_hit ?_ | refine block_miss rfl ?_ | refine Ops_end rfl ?_ | (refine Ops_off ?_ rfl ?_; focus (first | exact off_guard rfl rfl rfl | exact off_undef rfl rfl)) | (apply Ops_q0; (case hon => exact on_none); (case hq => exact Yl_assign rfl)))
        refine Ops_storeDat (i := p) (v := x) (by first | exact on_none | exact on_guard rfl rfl) rfl rfl rfl D4 (by omega) ?_
        intro w5 D5 g5
        have m5 : Mod (Blk1 g) w w5 := (m3.trans m4).grow g5 (fun b hb => .inl (by cases hb; rfl))
        have hsw : (M.set (p+1) y).set (p) x = swp M (p+1) (p) := by unfold swp; rw [hx, hy]
        rw [hsw] at D5
        repeat (first | (apply Ops_q; (case hon => (first | exact on_none | exact on_guard rfl rfl)); (case hd => rfl); (case hq => exact YlA)) | refine V_seq ?_ | refine V_block ?_ | refine V_region ?_ | refine V_region_still rfl (by kernel_rfl) (by kernel_rfl) ?_ | refine V_skip ?_ | refine V_ret ?_ | refine V_exit ?_ | refine V_true rfl ?_ | refine V_false rfl ?_ | refine then_normal ?_ | refine then_ret ?_ | refine then_exit ?_ | refine block_normal ?_ | refine block_ret ?_ | refine block_hit ?_ | refine block_miss rfl ?_ | refine Ops_end rfl ?_ | (refine Ops_off ?_ rfl ?_; focus (first | exact off_guard rfl rfl rfl | exact off_undef rfl rfl)) | (apply Ops_q0; (case hon => exact on_none); (case hq => exact Yl_assign rfl)))
        rw [hs1]
        refine ⟨(p, swp M (p + 1) p), (by repeat (first | exact trivial | refine ⟨rfl, ?_⟩)), ⟨by dsimp only; omega, by dsimp only; omega, m5, D5, hM.trans (Moved.swp (by omega) (by omega) (by omega)), hA.step ho (by omega) (by omega) (by omega) hx hy hlt⟩, by simp only; omega⟩
      · replace hlt := of_decide_eq_false hlt
        repeat (first | (apply Ops_q; (case hon => (first | exact on_none | exact on_guard rfl rfl)); (case hd => rfl); (case hq => exact YlA)) | refine V_seq ?_ | refine V_block ?_ | refine V_region ?_ | refine V_region_still rfl (by kernel_rfl) (by kernel_rfl) ?_ | refine V_skip ?_ | refine V_ret ?_ | refine V_exit ?_ | refine V_true rfl ?_ | refine V_false rfl ?_ | refine then_normal ?_ | refine then_ret ?_ | refine then_exit ?_ | refine block_normal ?_ | refine block_ret ?_ | refine block_hit ?_ | refine block_miss rfl ?_ | refine Ops_end rfl ?_ | (refine Ops_off ?_ rfl ?_; focus (first | exact off_guard rfl rfl rfl | exact off_undef rfl rfl)) | (apply Ops_q0; (case hon => exact on_none); (case hq => exact Yl_assign rfl)))
        refine ⟨(i + 1, M), (by repeat (first | exact trivial | refine ⟨rfl, ?_⟩)), ⟨by dsimp only; omega, .inl (by dsimp only; omega), m3, D3, hM, hA.stop ho (.inr ⟨x, y, hx, hy, hlt⟩)⟩, by simp only; omega⟩
    · have hd : decide ((a : Int) < (j : Int)) = false := decide_eq_false (by omega)
      repeat (first | (apply Ops_q; (case hon => (first | exact on_none | exact on_guard rfl rfl)); (case hd => rfl); (case hq => exact YlA)) | refine V_seq ?_ | refine V_block ?_ | refine V_region ?_ | refine V_region_still rfl (by kernel_rfl) (by kernel_rfl) ?_ | refine V_skip ?_ | refine V_ret ?_ | refine V_exit ?_ | refine V_true rfl ?_ | refine V_false rfl ?_ | refine then_normal ?_ | refine then_ret ?_ | refine then_exit ?_ | refine block_normal ?_ | refine block_ret ?_ | refine block_hit ?_ | refine block_miss rfl ?_ | refine Ops_end rfl ?_ | (refine Ops_off ?_ rfl ?_; focus (first | exact off_guard rfl rfl rfl | exact off_undef rfl rfl)) | (apply Ops_q0; (case hon => exact on_none); (case hq => exact Yl_assign rfl)))
      refine Ops_know rfl rfl hd ?_
      repeat (first | (apply Ops_q; (case hon => (first | exact on_none | exact on_guard rfl rfl)); (case hd => rfl); (case hq => exact YlA)) | refine V_seq ?_ | refine V_block ?_ | refine V_region ?_ | refine V_region_still rfl (by kernel_rfl) (by kernel_rfl) ?_ | refine V_skip ?_ | refine V_ret ?_ | refine V_exit ?_ | refine V_true rfl ?_ | refine V_false rfl ?_ | refine then_normal ?_ | refine then_ret ?_ | refine then_exit ?_ | refine block_normal ?_ | refine block_ret ?_ | refine block_hit ?_ | refine block_miss rfl ?_ | refine Ops_end rfl ?_ | (refine Ops_off ?_ rfl ?_; focus (first | exact off_guard rfl rfl rfl | exact off_undef rfl rfl)) | (apply Ops_q0; (case hon => exact on_none); (case hq => exact Yl_assign rfl)))
      refine ⟨(i + 1, M), (by repeat (first | exact trivial | refine ⟨rfl, ?_⟩)), ⟨by dsimp only; omega, .inl (by dsimp only; omega), m3, D3, hM, hA.stop ho (.inl (by omega))⟩, by simp only; omega⟩
  · replace hg := of_decide_eq_false hg
    repeat (first | (apply Ops_q; (case hon => (first | exact on_none | exact on_guard rfl rfl)); (case hd => rfl); (case hq => exact YlA)) | refine V_seq ?_ | refine V_block ?_ | refine V_region ?_ | refine V_region_still rfl (by kernel_rfl) (by kernel_rfl) ?_ | refine V_skip ?_ | refine V_ret ?_ | refine V_exit ?_ | refine V_true rfl ?_ | refine V_false rfl ?_ | refine then_normal ?_ | refine then_ret ?_ | refine then_exit ?_ | refine block_normal ?_ | refine block_ret ?_ | refine block_hit ?_ | refine block_miss rfl ?_ | refine Ops_end rfl ?_ | (refine Ops_off ?_ rfl ?_; focus (first | exact off_guard rfl rfl rfl | exact off_undef rfl rfl)) | (apply Ops_q0; (case hon => exact on_none); (case hq => exact Yl_assign rfl)))
    refine ret0 (by first | exact .inl rfl | exact .inr rfl) rfl ?_
    refine Does_mk (fun w' he => ⟨rfl, M, D3.ext he, hM, ?_⟩) m3
    exact hA.part (Nat.le_refl _) (by omega)
end
end Go.Proofs.Ytfakgiikobajnaa

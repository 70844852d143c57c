/-
  Layer 27 (elect): the walk of the law of candidates.
  Conditions: the list is not too long for a machine.
-/
import Derived.Test.YtfakgiikobajnaaElKP
import Derived.Test.YtfakgiikobajnaaElL
import Derived.Test.YtfakgiikobajnaaVCall
namespace Go.Proofs.Ytfakgiikobajnaa
open Go.RowKit

theorem rl_cand {router : Int} {r ad p d b : Int} {y : Nf} : ∀ {L : List Nf} {done : Bool}, y ∈ rl router (cand r ad p d b) done L → ∃ r ad p d b, y = cand r ad p d b
  | [], done, h => by
    cases done with
    | true => simp [rl] at h
    | false => exact ⟨_, _, _, _, _, by simpa [rl] using h⟩
  | x :: t, done, h => by
    rw [rl] at h
    split at h
    · split at h
      · rcases List.mem_cons.1 h with h | h
        · exact ⟨_, _, _, _, _, h⟩
        · rcases List.mem_cons.1 h with h | h
          · exact ⟨_, _, _, _, _, h⟩
          · exact rl_cand h
      · rcases List.mem_cons.1 h with h | h
        · exact ⟨_, _, _, _, _, h⟩
        · exact rl_cand h
    · exact rl_cand h
theorem cand_same (w : World) (r ad p d b : Int) : SameN w (cand r ad p d b) (cand r ad p d b) :=
  ⟨.none, .none, .none, .none, [], [], [], [], rfl, ⟨Hs.none w, Hs.none w, Nat.zero_le _⟩, ⟨Hs.none w, Hs.none w, Nat.zero_le _⟩, ⟨Hs.none w, Hs.none w, Nat.zero_le _⟩, ⟨Hs.none w, Hs.none w, Nat.zero_le _⟩⟩
theorem adj_pairwise : ∀ {L : List Nf}, (∀ (j : Nat) (x y : Nf), L[j]? = some x → L[j + 1]? = some y → x.r < y.r) → L.Pairwise (fun x y => x.r < y.r)
  | [], _ => .nil
  | [x], _ => by simp
  | x :: y :: t, h => by
    have h0 := h 0 x y rfl rfl
    have ih := adj_pairwise (L := y :: t) (fun j u v hu hv => h (j + 1) u v (by simpa using hu) (by simpa using hv))
    refine List.pairwise_cons.2 ⟨fun z hz => ?_, ih⟩
    rcases List.mem_cons.1 hz with hz | hz
    · rw [hz]; exact h0
    · have := (List.pairwise_cons.1 ih).1 z hz; omega
set_option maxHeartbeats 2000000 in
theorem lawCandidates_v (s : Ist) (L : List Nf) (router : Int) (w : World) (hL : Nfs w s.nb.ao L) (hln : s.nb.n = L.length) (hn : L.length * 168 ≤ 140737488351232) :
    Calls Try.prog 8 #[s.val, .int .u32 router] w (Ret (.bool true) w) := by
  refine V_enter (vs := [_, _]) Try.func8 rfl Try.ntmps8 (Nat.le_of_ble_eq_true rfl) ?_
  repeat (first | (apply Ops_q; (case hon => (first | exact on_none | exact on_guard rfl rfl)); (case hd => rfl); (case hq => exact YlA)) | refine V_seq ?_ | refine V_block ?_ | refine V_region ?_ | refine V_region_still rfl (by kernel_rfl) (by kernel_rfl) ?_ | refine V_skip ?_ | refine V_ret ?_ | refine V_exit ?_ | refine V_true rfl ?_ | refine V_false rfl ?_ | refine then_normal ?_ | refine then_ret ?_ | refine then_exit ?_ | refine block_normal ?_ | refine block_ret ?_ | refine block_hit ?_ | refine block_miss rfl ?_ | refine Ops_end rfl ?_ | (refine Ops_off ?_ rfl ?_; focus (first | exact off_guard rfl rfl rfl | exact off_undef rfl rfl)) | (apply Ops_q0; (case hon => exact on_none); (case hq => exact Yl_assign rfl)))
  (refine Ops_box (by first | exact on_none | exact on_guard rfl rfl) rfl rfl rfl ?_; intro w1 b1 n_b1; have k_b1 := n_b1.blk)
  repeat (first | (apply Ops_q; (case hon => (first | exact on_none | exact on_guard rfl rfl)); (case hd => rfl); (case hq => exact YlA)) | refine V_seq ?_ | refine V_block ?_ | refine V_region ?_ | refine V_region_still rfl (by kernel_rfl) (by kernel_rfl) ?_ | refine V_skip ?_ | refine V_ret ?_ | refine V_exit ?_ | refine V_true rfl ?_ | refine V_false rfl ?_ | refine then_normal ?_ | refine then_ret ?_ | refine then_exit ?_ | refine block_normal ?_ | refine block_ret ?_ | refine block_hit ?_ | refine block_miss rfl ?_ | refine Ops_end rfl ?_ | (refine Ops_off ?_ rfl ?_; focus (first | exact off_guard rfl rfl rfl | exact off_undef rfl rfl)) | (apply Ops_q0; (case hon => exact on_none); (case hq => exact Yl_assign rfl)))
  refine V_loop (fun k : Nat => [(5, .int .i64 ((k : Int) + 1)), (2, .pointer (some ⟨b1, 0, none⟩)), (1, .int .u32 router)])
    (fun k w' => Ext w w' ∧ Blk w' b1 39 s.cells ∧ (k = 0 ∨ k < L.length) ∧ ∀ (j : Nat) (x y : Nf), j < k → L[j]? = some x → L[j + 1]? = some y → x.r < y.r) (fun k => L.length - k) 0 (by repeat (first | exact trivial | refine ⟨rfl, ?_⟩)) ⟨n_b1.ext, k_b1, .inl rfl, fun j _ _ h => by omega⟩ ?_
  clear k_b1 n_b1
  rintro k w2 ⟨e2, k_b1, hk, hadj⟩
  replace hL := hL.ext e2
  repeat (first | (apply Ops_q; (case hon => (first | exact on_none | exact on_guard rfl rfl)); (case hd => rfl); (case hq => exact YlA)) | refine V_seq ?_ | refine V_block ?_ | refine V_region ?_ | refine V_region_still rfl (by kernel_rfl) (by kernel_rfl) ?_ | refine V_skip ?_ | refine V_ret ?_ | refine V_exit ?_ | refine V_true rfl ?_ | refine V_false rfl ?_ | refine then_normal ?_ | refine then_ret ?_ | refine then_exit ?_ | refine block_normal ?_ | refine block_ret ?_ | refine block_hit ?_ | refine block_miss rfl ?_ | refine Ops_end rfl ?_ | (refine Ops_off ?_ rfl ?_; focus (first | exact off_guard rfl rfl rfl | exact off_undef rfl rfl)) | (apply Ops_q0; (case hon => exact on_none); (case hq => exact Yl_assign rfl)))
  refine V_cond rfl (fun hg => ?_) (fun hg => ?_)
  · replace hg := of_decide_eq_true hg
    have hkl : k + 1 < L.length := by omega
    obtain ⟨x, hx⟩ : ∃ x, L[k]? = some x := ⟨_, List.getElem?_eq_getElem (by omega)⟩
    obtain ⟨y, hy⟩ : ∃ y, L[k + 1]? = some y := ⟨_, List.getElem?_eq_getElem hkl⟩
    obtain ⟨ad, had, hcx⟩ := hL.at hx
    obtain ⟨ad', had', hcy⟩ := hL.at hy
    obtain rfl : ad = ad' := by rw [had] at had'; exact Option.some.inj had'
    have hcx0 : w2.cell? ((ad.add (k * 15)).add 0) = some (.int .u32 x.r) := hcx 0 _ rfl
    have hcy0 : w2.cell? ((ad.add ((k + 1) * 15)).add 0) = some (.int .u32 y.r) := hcy 0 _ rfl
    have hs1 : (k : Int) + 1 - 1 = (k : Int) := by omega
    have k_b2 := k_b1
    unfold Ist.cells at k_b2
    rw [had] at k_b2
    repeat (first | (apply Ops_q; (case hon => (first | exact on_none | exact on_guard rfl rfl)); (case hd => rfl); (case hq => exact YlA)) | refine V_seq ?_ | refine V_block ?_ | refine V_region ?_ | refine V_region_still rfl (by kernel_rfl) (by kernel_rfl) ?_ | refine V_skip ?_ | refine V_ret ?_ | refine V_exit ?_ | refine V_true rfl ?_ | refine V_false rfl ?_ | refine then_normal ?_ | refine then_ret ?_ | refine then_exit ?_ | refine block_normal ?_ | refine block_ret ?_ | refine block_hit ?_ | refine block_miss rfl ?_ | refine Ops_end rfl ?_ | (refine Ops_off ?_ rfl ?_; focus (first | exact off_guard rfl rfl rfl | exact off_undef rfl rfl)) | (apply Ops_q0; (case hon => exact on_none); (case hq => exact Yl_assign rfl)))
    (apply Ops_q; (case hon => (first | exact on_none | exact on_guard rfl rfl)); (case hd => rfl); (case hq => exact Yl_indexS (j := (k+1)) rfl rfl (by omega)))
    repeat (first | (apply Ops_q; (case hon => (first | exact on_none | exact on_guard rfl rfl)); (case hd => rfl); (case hq => exact YlA)) | refine V_seq ?_ | refine V_block ?_ | refine V_region ?_ | refine V_region_still rfl (by kernel_rfl) (by kernel_rfl) ?_ | refine V_skip ?_ | refine V_ret ?_ | refine V_exit ?_ | refine V_true rfl ?_ | refine V_false rfl ?_ | refine then_normal ?_ | refine then_ret ?_ | refine then_exit ?_ | refine block_normal ?_ | refine block_ret ?_ | refine block_hit ?_ | refine block_miss rfl ?_ | refine Ops_end rfl ?_ | (refine Ops_off ?_ rfl ?_; focus (first | exact off_guard rfl rfl rfl | exact off_undef rfl rfl)) | (apply Ops_q0; (case hon => exact on_none); (case hq => exact Yl_assign rfl)))
    rw [hs1]
    (apply Ops_q; (case hon => (first | exact on_none | exact on_guard rfl rfl)); (case hd => rfl); (case hq => exact Yl_indexS (j := k) rfl rfl (by omega)))
    repeat (first | (apply Ops_q; (case hon => (first | exact on_none | exact on_guard rfl rfl)); (case hd => rfl); (case hq => exact YlA)) | refine V_seq ?_ | refine V_block ?_ | refine V_region ?_ | refine V_region_still rfl (by kernel_rfl) (by kernel_rfl) ?_ | refine V_skip ?_ | refine V_ret ?_ | refine V_exit ?_ | refine V_true rfl ?_ | refine V_false rfl ?_ | refine then_normal ?_ | refine then_ret ?_ | refine then_exit ?_ | refine block_normal ?_ | refine block_ret ?_ | refine block_hit ?_ | refine block_miss rfl ?_ | refine Ops_end rfl ?_ | (refine Ops_off ?_ rfl ?_; focus (first | exact off_guard rfl rfl rfl | exact off_undef rfl rfl)) | (apply Ops_q0; (case hon => exact on_none); (case hq => exact Yl_assign rfl)))
    refine V_cond rfl (fun h5 => ?_) (fun h5 => ?_)
    · repeat (first | (apply Ops_q; (case hon => (first | exact on_none | exact on_guard rfl rfl)); (case hd => rfl); (case hq => exact YlA)) | refine V_seq ?_ | refine V_block ?_ | refine V_region ?_ | refine V_region_still rfl (by kernel_rfl) (by kernel_rfl) ?_ | refine V_skip ?_ | refine V_ret ?_ | refine V_exit ?_ | refine V_true rfl ?_ | refine V_false rfl ?_ | refine then_normal ?_ | refine then_ret ?_ | refine then_exit ?_ | refine block_normal ?_ | refine block_ret ?_ | refine block_hit ?_ | refine block_miss rfl ?_ | refine Ops_end rfl ?_ | (refine Ops_off ?_ rfl ?_; focus (first | exact off_guard rfl rfl rfl | exact off_undef rfl rfl)) | (apply Ops_q0; (case hon => exact on_none); (case hq => exact Yl_assign rfl)))
      (apply Ops_q; (case hon => (first | exact on_none | exact on_guard rfl rfl)); (case hd => rfl); (case hq => exact Yl_call rfl (fun w_ e_ => lives_v w_)))
      repeat (first | (apply Ops_q; (case hon => (first | exact on_none | exact on_guard rfl rfl)); (case hd => rfl); (case hq => exact YlA)) | refine V_seq ?_ | refine V_block ?_ | refine V_region ?_ | refine V_region_still rfl (by kernel_rfl) (by kernel_rfl) ?_ | refine V_skip ?_ | refine V_ret ?_ | refine V_exit ?_ | refine V_true rfl ?_ | refine V_false rfl ?_ | refine then_normal ?_ | refine then_ret ?_ | refine then_exit ?_ | refine block_normal ?_ | refine block_ret ?_ | refine block_hit ?_ | refine block_miss rfl ?_ | refine Ops_end rfl ?_ | (refine Ops_off ?_ rfl ?_; focus (first | exact off_guard rfl rfl rfl | exact off_undef rfl rfl)) | (apply Ops_q0; (case hon => exact on_none); (case hq => exact Yl_assign rfl)))
      refine ret1 (by first | exact .inl rfl | exact .inr rfl) rfl rfl ?_
      exact Ret_mk rfl e2
    · have h6 := of_decide_eq_false h5
      repeat (first | (apply Ops_q; (case hon => (first | exact on_none | exact on_guard rfl rfl)); (case hd => rfl); (case hq => exact YlA)) | refine V_seq ?_ | refine V_block ?_ | refine V_region ?_ | refine V_region_still rfl (by kernel_rfl) (by kernel_rfl) ?_ | refine V_skip ?_ | refine V_ret ?_ | refine V_exit ?_ | refine V_true rfl ?_ | refine V_false rfl ?_ | refine then_normal ?_ | refine then_ret ?_ | refine then_exit ?_ | refine block_normal ?_ | refine block_ret ?_ | refine block_hit ?_ | refine block_miss rfl ?_ | refine Ops_end rfl ?_ | (refine Ops_off ?_ rfl ?_; focus (first | exact off_guard rfl rfl rfl | exact off_undef rfl rfl)) | (apply Ops_q0; (case hon => exact on_none); (case hq => exact Yl_assign rfl)))
      refine ⟨k + 1, (by repeat (first | exact trivial | refine ⟨rfl, ?_⟩)), ⟨e2, k_b1, .inr hkl, fun j u v hj hu hv => ?_⟩, by omega⟩
      rcases Nat.lt_or_ge j k with h7 | h7
      · exact hadj j u v h7 hu hv
      · obtain rfl : j = k := by omega
        rw [hx] at hu; cases hu
        rw [hy] at hv; cases hv
        omega
  replace hg := of_decide_eq_false hg
  have hsrt : L.Pairwise (fun x y => x.r < y.r) := adj_pairwise fun j x y hx hy => hadj j x y (by have := (List.getElem?_eq_some_iff.1 hy).1; omega) hx hy
  clear hadj
  repeat (first | (apply Ops_q; (case hon => (first | exact on_none | exact on_guard rfl rfl)); (case hd => rfl); (case hq => exact YlA)) | refine V_seq ?_ | refine V_block ?_ | refine V_region ?_ | refine V_skip ?_ | refine V_ret ?_ | refine V_exit ?_ | refine V_true rfl ?_ | refine V_false rfl ?_ | refine then_normal ?_ | refine then_ret ?_ | refine then_exit ?_ | refine block_normal ?_ | refine block_ret ?_ | refine block_hit ?_ | refine block_miss rfl ?_ | refine Ops_end rfl ?_ | (refine Ops_off ?_ rfl ?_; focus (first | exact off_guard rfl rfl rfl | exact off_undef rfl rfl)) | (apply Ops_q0; (case hon => exact on_none); (case hq => exact Yl_assign rfl)))
  refine V_callC (f := 15) 5 2 (C := Ext w2) (R := fun x w' => ∃ M : List Nb, Own w' w2.heap.size 31 15 x (M.map Nb.cells) ∧ M = (rl router (s.own router) (decide (s.pr ≤ 0)) L).map Nf.nb) (fun _ _ h he => h.trans he) (fun _ he => he) (fun _ _ _ he ⟨M, h1, h2⟩ => ⟨M, h1.ext he, h2⟩) (by kernel_rfl) rfl (by kernel_rfl) (by rfl) ?_
  refine .cons rfl rfl rfl rfl (fun _ hw => Yl_loadN rfl ((k_b1.ext hw).cells) inferInstance) (.cons rfl rfl rfl rfl (fun _ _ => Yl_move rfl) (.nil rfl ⟨_, rfl, ?_, ?_⟩))
  · exact fun w_ e_ => Calls.mono (candidates_v s router L w_ (hL.ext e_) hln hn) fun e w' ⟨x, hx, he, M, h1, h2, h3⟩ => ⟨x, hx, e_.trans he, M, h1.mono e_.size, cands_eq hsrt h2 h3⟩
  refine .cons rfl rfl rfl rfl (fun _ hw => Yl_loadN rfl ((k_b1.ext hw).cells) inferInstance) (.cons rfl rfl rfl rfl (fun _ _ => Yl_move rfl) (.nil rfl ?_))
  rintro v w3 e3 ⟨M, hO, rfl⟩
  have hmap : ∀ R : List Nf, (R.map Nf.nb).map Nb.cells = R.map Nf.cells := fun R => by rw [List.map_map]; rfl
  rw [hmap] at hO
  obtain ⟨ao, c, rfl, hA⟩ := hO.slice
  have hNf : Nfs w3 ao (rl router (s.own router) (decide (s.pr ≤ 0)) L) := hA
  clear hA hO
  rw [List.length_map]
  (refine Ops_callR (by first | exact on_none | exact on_guard rfl rfl) rfl rfl (fun w_ e_ => rcandidates_v s router L w_ (hL.ext (e3.trans e_)) hln hn) ?_; intro v4 w4 w0_ e0_ e1_ r_v4; have e_w4 := e0_.trans e1_; have b_v4 := e0_.size; clear e0_ e1_)
  obtain ⟨ao4, c4, rfl, hA4⟩ := r_v4.slice
  have hNf4 : Nfs w4 ao4 (rl router (s.own router) (decide (s.pr ≤ 0)) L) := hA4
  clear hA4 r_v4
  rw [List.length_map]
  replace hNf := hNf.ext e_w4
  have hc := fun y (h : y ∈ rl router (s.own router) (decide (s.pr ≤ 0)) L) => rl_cand h
  have hrl := rl_len router (s.own router) L (decide (s.pr ≤ 0))
  generalize rl router (s.own router) (decide (s.pr ≤ 0)) L = R at *
  have hsame : ∀ w' (k : Nat) (x y : Nf), R[k]? = some x → R[k]? = some y → SameN w' x y := fun w' k x y hx hy => by
    rw [hx] at hy; cases hy
    obtain ⟨r, ad, p, d, b, rfl⟩ := hc x (List.mem_of_getElem? hx)
    exact cand_same w' r ad p d b
  repeat (first | (apply Ops_q; (case hon => (first | exact on_none | exact on_guard rfl rfl)); (case hd => rfl); (case hq => exact YlA)) | refine V_seq ?_ | refine V_block ?_ | refine V_region ?_ | refine V_region_still rfl (by kernel_rfl) (by kernel_rfl) ?_ | refine V_skip ?_ | refine V_ret ?_ | refine V_exit ?_ | refine V_true rfl ?_ | refine V_false rfl ?_ | refine then_normal ?_ | refine then_ret ?_ | refine then_exit ?_ | refine block_normal ?_ | refine block_ret ?_ | refine block_hit ?_ | refine block_miss rfl ?_ | refine Ops_end rfl ?_ | (refine Ops_off ?_ rfl ?_; focus (first | exact off_guard rfl rfl rfl | exact off_undef rfl rfl)) | (apply Ops_q0; (case hon => exact on_none); (case hq => exact Yl_assign rfl)))
  (apply Ops_q; (case hon => (first | exact on_none | exact on_guard rfl rfl)); (case hd => rfl); (case hq => exact Yl_call rfl (fun w_ e_ => sameNeighbors_v ao ao4 R R R.length c c4 w_ (hNf.ext e_) (hNf4.ext e_) rfl rfl (hsame w_) (by omega))))
  repeat (first | (apply Ops_q; (case hon => (first | exact on_none | exact on_guard rfl rfl)); (case hd => rfl); (case hq => exact YlA)) | refine V_seq ?_ | refine V_block ?_ | refine V_region ?_ | refine V_region_still rfl (by kernel_rfl) (by kernel_rfl) ?_ | refine V_skip ?_ | refine V_ret ?_ | refine V_exit ?_ | refine V_true rfl ?_ | refine V_false rfl ?_ | refine then_normal ?_ | refine then_ret ?_ | refine then_exit ?_ | refine block_normal ?_ | refine block_ret ?_ | refine block_hit ?_ | refine block_miss rfl ?_ | refine Ops_end rfl ?_ | (refine Ops_off ?_ rfl ?_; focus (first | exact off_guard rfl rfl rfl | exact off_undef rfl rfl)) | (apply Ops_q0; (case hon => exact on_none); (case hq => exact Yl_assign rfl)))
  (apply Ops_q; (case hon => (first | exact on_none | exact on_guard rfl rfl)); (case hd => rfl); (case hq => exact Yl_call rfl (fun w_ e_ => lives_v w_)))
  repeat (first | (apply Ops_q; (case hon => (first | exact on_none | exact on_guard rfl rfl)); (case hd => rfl); (case hq => exact YlA)) | refine V_seq ?_ | refine V_block ?_ | refine V_region ?_ | refine V_region_still rfl (by kernel_rfl) (by kernel_rfl) ?_ | refine V_skip ?_ | refine V_ret ?_ | refine V_exit ?_ | refine V_true rfl ?_ | refine V_false rfl ?_ | refine then_normal ?_ | refine then_ret ?_ | refine then_exit ?_ | refine block_normal ?_ | refine block_ret ?_ | refine block_hit ?_ | refine block_miss rfl ?_ | refine Ops_end rfl ?_ | (refine Ops_off ?_ rfl ?_; focus (first | exact off_guard rfl rfl rfl | exact off_undef rfl rfl)) | (apply Ops_q0; (case hon => exact on_none); (case hq => exact Yl_assign rfl)))
  refine ret1 (by first | exact .inl rfl | exact .inr rfl) rfl rfl ?_
  exact Ret_mk rfl (e2.trans (e3.trans e_w4))
end Go.Proofs.Ytfakgiikobajnaa

/-
  The rules for slices of one's own: append, the literal of one element; what becomes of blocks and rows.
  No conditions beyond those that each rule states.
-/
import Derived.Test.YtfakgiikobajnaaVMem
import Derived.Maps.AppendAt
import Derived.Great.BuildSlice
namespace Go.Proofs.Ytfakgiikobajnaa
open Go.RowKit

section
variable {w w' w0 w1 : World} {base : Nat} {e : TypeId} {size : Nat} {v : Value} {n : Nat} {xs : List Value} {row : Option Nat}
theorem own_ext (h : w.ownsRow base e size v n xs) (he : Ext w w') : w'.ownsRow base e size v n xs := by
  refine ⟨h.1, h.2.imp id fun ⟨g, cap, cur, h1, h2, h3, h4⟩ => ⟨g, cap, cur, h1, h2, he.blk h3, h4⟩⟩
theorem own_grow (h : w.ownsRow base e size v n xs) (hg : w.grownBy w' row) (hne : v.ownBlock ≠ row ∨ v.ownBlock = none) : w'.ownsRow base e size v n xs := by
  refine ⟨h.1, h.2.imp id fun ⟨g, cap, cur, h1, h2, h3, h4⟩ => ⟨g, cap, cur, h1, h2, ?_, h4⟩⟩
  have hlt : g < w.heap.size := by
    rcases Nat.lt_or_ge g w.heap.size with h5 | h5
    · exact h5
    · rw [Array.getElem?_eq_none h5] at h3; cases h3
  rw [hg.block g hlt (by
    intro he
    rw [h1] at hne
    rcases hne with h6 | h6
    · exact h6 he
    · cases h6)]
  exact h3
theorem own_upd {b : Nat} {t : TypeId} {cs : List Value} (h : w.ownsRow base e size v n xs) (hu : Upd w w' b t cs) (hne : v.ownBlock ≠ some b) : w'.ownsRow base e size v n xs := by
  refine ⟨h.1, h.2.imp id fun ⟨g, cap, cur, h1, h2, h3, h4⟩ => ⟨g, cap, cur, h1, h2, ?_, h4⟩⟩
  rw [hu.other g (by intro he; subst he; rw [h1] at hne; exact hne rfl)]
  exact h3
theorem own_nil : w.ownsRow base e size (.slice none 0 0) 0 [] := ⟨by simp, .inl ⟨rfl, rfl⟩⟩
theorem grow_ext (he : Ext w w') (hg : w'.grownBy w1 row) : w.grownBy w1 row :=
  ⟨hg.os.trans he.os, hg.tape.trans he.tape, hg.output.trans he.output, Nat.le_trans he.size hg.size, fun k hk hne => by
    rw [hg.block k (Nat.lt_of_lt_of_le hk he.size) hne, he.block k hk]⟩
theorem grow_below (he : Ext w0 w) (hg : w.grownBy w1 row) (hr : ∀ k, row = some k → w0.heap.size ≤ k) : Ext w0 w1 :=
  ⟨hg.os.trans he.os, hg.tape.trans he.tape, hg.output.trans he.output, Nat.le_trans he.size hg.size, fun k hk => by
    rw [hg.block k (Nat.lt_of_lt_of_le hk he.size) (fun e => by have := hr k e.symm; omega), he.block k hk]⟩
theorem grow_blk {b : Nat} {t : TypeId} {cs : List Value} (hg : w.grownBy w1 row) (h : Blk w b t cs) (hne : some b ≠ row) : Blk w1 b t cs := by
  unfold Blk; rw [hg.block b h.lt hne]; exact h
theorem grow_cells {a : Addr} {vs : List Value} (hg : w.grownBy w1 row) (h : Cells w a vs) (hne : some a.block ≠ row) : Cells w1 a vs := fun j u hj => by
  have hc := h j u hj
  have hlt := World.block_lt_of_cell? w _ hc
  have hb : (a.add j).block = a.block := by unfold Addr.add; split <;> rfl
  rw [World.cell?_of_block (hg.block _ hlt (by rw [hb]; exact hne))]; exact hc
/-- The cells of a row of one's own. -/
theorem own_cells (h : w.ownsRow base e size v n xs) {a : Addr} {k c : Nat} (hv : v = .slice (some a) k c) : Cells w a xs := by
  subst hv
  obtain ⟨h0, h1 | ⟨g, cap, cur, h1, h2, h3, h4, h5, h6, h7⟩⟩ := h
  · cases h1.1
  · cases h1
    intro j u hj
    rw [add_blk, Nat.zero_add]
    have hj' : cur.toList[j]? = some u := by
      rw [← h7, List.getElem?_take] at hj
      split at hj
      · exact hj
      · cases hj
    have : cur[j]? = some u := by simpa using hj'
    simp [World.cell?, h3, this]
theorem own_len (h : w.ownsRow base e size v n xs) : ∃ ao c, v = .slice ao n c := by
  obtain ⟨h0, ⟨h1, rfl⟩ | ⟨g, cap, cur, h1, _⟩⟩ := h
  · exact ⟨_, _, h1⟩
  · exact ⟨_, _, h1⟩
end

section
variable {P : Program} {N : Nat} {ops : Array Oper} {K : Env → World → Prop} {m : Env} {w : World} {rest : List Oper} {ty : TypeId} {pos : String} {after : Array Edge} {g : Option (Nat × Bool)}
instance : TNext 0 1 := ⟨rfl⟩
instance : TNext 1 2 := ⟨rfl⟩
instance : TNext 2 3 := ⟨rfl⟩
instance : TNext 3 4 := ⟨rfl⟩
instance : TNext 4 5 := ⟨rfl⟩
instance : TNext 5 6 := ⟨rfl⟩
instance : TNext 6 7 := ⟨rfl⟩
instance : TNext 7 8 := ⟨rfl⟩
instance : TNext 8 9 := ⟨rfl⟩
instance : TNext 9 10 := ⟨rfl⟩
instance : TNext 10 11 := ⟨rfl⟩
instance : TNext 11 12 := ⟨rfl⟩
/-- The cells of the elements of a literal, one behind the other. -/
class TApp (a b : List Value) (c : outParam (List Value)) : Prop where h : a ++ b = c
instance (b : List Value) : TApp [] b b := ⟨rfl⟩
instance (x : Value) (a b c : List Value) [y : TApp a b c] : TApp (x :: a) b (x :: c) := ⟨by rw [List.cons_append, y.h]⟩
class TParts (n0 i : Nat) (vs : List (Nat × Value)) (out : outParam (List Value)) : Prop where
  fill : ∀ done init : List Value, done.length = i * n0 → init.length = vs.length * n0 → Instr.fill (fun j => some (j * n0, n0)) (done ++ init).toArray vs = some (done ++ out).toArray
instance (n0 i : Nat) : TParts n0 i [] [] := ⟨fun done init _ h => by
  have : init = [] := List.length_eq_zero_iff.1 (by simpa using h)
  subst this; simp [Instr.fill]⟩
theorem over_all : ∀ (as bs : List Value), as.length = bs.length → over 0 as bs = as
  | [], bs, h => by cases bs <;> simp_all [over]
  | x :: r, [], h => by simp at h
  | x :: r, y :: s, h => by simp only [over]; rw [over_all r s (by simpa using h)]
theorem over_skip : ∀ (d as bs : List Value), over d.length as (d ++ bs) = d ++ over 0 as bs
  | [], as, bs => rfl
  | x :: d, as, bs => by simp only [List.length_cons, List.cons_append, over, over_skip d as bs]
theorem over_part : ∀ (as bs cs : List Value), as.length = bs.length → over 0 as (bs ++ cs) = as ++ cs
  | [], [], cs, _ => over_nil 0 cs
  | [], y :: s, cs, h => by simp at h
  | x :: r, [], cs, h => by simp at h
  | x :: r, y :: s, cs, h => by simp only [List.cons_append, over]; rw [over_part r s cs (by simpa using h)]
instance (n0 i i' : Nat) (v : Value) (vc out out' : List Value) (r : List (Nat × Value)) [hi : TNext i i'] [hv : TCells v vc] [hl : TLen vc n0] [hp : TParts n0 i' r out] [ha : TApp vc out out'] : TParts n0 i ((i, v) :: r) out' := ⟨fun done init hd hin => by
  have hlen := hl.h
  have e1 : v.cells.size = n0 := by rw [hv.h]; simp [hlen]
  have hin' : init.length = n0 + r.length * n0 := by rw [hin, List.length_cons, Nat.succ_mul, Nat.add_comm]
  unfold Instr.fill
  simp only
  rw [if_neg (by simp [e1]; omega)]
  have hf := fold_over (i * n0) vc 0 (done ++ init)
  rw [Nat.add_zero] at hf
  have e2 : v.cells.zipIdx.foldl (fun cs (x : Value × Nat) => match x with | (c, j) => cs.setIfInBounds (i * n0 + j) c) (done ++ init).toArray = (over (i * n0) vc (done ++ init)).toArray := by
    rw [← hf, ← Array.foldl_toList, Array.toList_zipIdx, hv.h]
  rw [e2]
  have e3 : over (i * n0) vc (done ++ init) = (done ++ vc) ++ init.drop n0 := by
    rw [← hd, over_skip]
    have := over_part vc (init.take n0) (init.drop n0) (by simp [hlen]; omega)
    rw [List.take_append_drop] at this
    rw [this, List.append_assoc]
  rw [e3]
  have := hp.fill (done ++ vc) (init.drop n0) (by rw [List.length_append, hd, hlen, ← hi.h, Nat.succ_mul]) (by rw [List.length_drop, hin']; omega)
  rw [this, ← ha.h, List.append_assoc]⟩
/-- The literal of a slice, every element given. -/
theorem Ops_lit {dst : Nat} {t e : TypeId} {k : Nat} {ps : Array (Nat × Operand)} {pvs : List (Nat × Value)} {out zs : List Value} {z : Value} {n0 b0 : Nat} [ht : TSlice P t e] [hs : TSize P e n0 b0] [hz : TZero P e z zs] (hon : On N ops m ⟨some dst, .buildSlice t k ps, ty, pos, after, g⟩) (hd : Nat.ble (dst + 1) N = true)
    (hx : evp m ps.toList = some pvs) [hp : TParts n0 0 pvs out] (hn : (Nat.ble 1 (k * n0) && Nat.ble (k * n0) 16777216 && Nat.beq pvs.length k) = true)
    (h : ∀ w1 b, New w w1 b e out → Ops P N ops false K rest ((dst, .slice (some ⟨b, 0, none⟩) k k) :: m) w1) : Ops P N ops false K (⟨some dst, .buildSlice t k ps, ty, pos, after, g⟩ :: rest) m w := by
  refine ⟨fun a w' ha hw => ?_⟩
  unfold wpList
  rw [if_pos (hon.out a ha)]
  refine .inl ?_
  simp only [Bool.and_eq_true] at hn
  have n1 := Nat.le_of_ble_eq_true hn.1.1
  have n2 := Nat.le_of_ble_eq_true hn.1.2
  have n3 := Nat.eq_of_beq_eq_true hn.2
  obtain ⟨inf, hi, hsz⟩ := Option.map_eq_some_iff.1 hs.h
  simp only [Prod.mk.injEq] at hsz
  obtain ⟨inf', hi', hz'⟩ := Option.bind_eq_some_iff.1 hz.h
  obtain rfl := Option.some.inj (hi.symm.trans hi')
  have hfill : Instr.fill (fun i => some (i * inf.size, inf.size)) ((Array.range (k * inf.size)).map (z.cells[· % z.cells.size]!)) pvs = some out.toArray := by
    rw [hsz.1]
    have := hp.fill [] ((Array.range (k * n0)).map (z.cells[· % z.cells.size]!)).toList (by simp) (by simp [n3])
    rw [List.nil_append, List.nil_append, Array.toArray_toList] at this
    exact this
  have e1 : ps.map (fun p => (p.1, a.eval p.2)) = pvs.toArray := by rw [← ha.evp hx, ← Array.toList_map]
  have hr : (execOp a.eval ⟨some dst, .buildSlice t k ps, ty, pos, after, g⟩).run P w' = .ok (.value (.slice (some ⟨w'.heap.size, 0, none⟩) k k)) (w'.alloc (.cells out.toArray e)) := by
    have := run_buildSlice (P := P) w' t e k pvs.toArray out.toArray inf z ht.h hi hz' (by rw [hsz.1]; omega) (by rw [hsz.1]; omega) hfill
    simp only [execOp, e1]
    simp [this]
  unfold Oper.wp
  rw [hr]
  exact (h _ _ (New.of hw e out)).out _ _ (ha.put (Nat.le_of_ble_eq_true hd) _) (Ext.refl _)

/-- append onto a row of one's own. -/
theorem Ops_append {dst : Nat} {t e : TypeId} {x y : Operand} {base n k c : Nat} {v : Value} {xs news zs : List Value} {z : Value} {n0 b0 : Nat} {ad : Addr} [ht : TSlice P t e] [hs : TSize P e n0 b0] [hz : TZero P e z zs]
    (hon : On N ops m ⟨some dst, .call { callee := .builtin .append, args := #[x, y], argTypes := #[t, t] }, ty, pos, after, g⟩) (hd : Nat.ble (dst + 1) N = true)
    (hx : ev m x = some v) (hy : ev m y = some (.slice (some ad) k c)) (hzs : (Nat.beq zs.length n0 && Nat.ble 1 n0) = true)
    (hown : w.ownsRow base e n0 v n xs) (hnews : Cells w ad news) (hl : news.length = k * n0) (h1 : ∀ u ∈ news, u.oneCell' = true) (h63 : n + k ≤ maxLen) (hb : (n + k) * b0 ≤ 140737488355328) (hbase : base ≤ w.heap.size)
    (h : ∀ v' w1, w1.ownsRow base e n0 v' (n + k) (xs ++ news) → w.grownBy w1 v.ownBlock → (v'.ownBlock = v.ownBlock ∨ ∃ b, v'.ownBlock = some b ∧ w.heap.size ≤ b) → Ops P N ops false K rest ((dst, v') :: m) w1) :
    Ops P N ops false K (⟨some dst, .call { callee := .builtin .append, args := #[x, y], argTypes := #[t, t] }, ty, pos, after, g⟩ :: rest) m w := by
  refine ⟨fun a w' ha hw => ?_⟩
  unfold wpList
  rw [if_pos (hon.out a ha)]
  refine .inl ?_
  simp only [Bool.and_eq_true] at hzs
  obtain ⟨inf, hi, hsz⟩ := Option.map_eq_some_iff.1 hs.h
  simp only [Prod.mk.injEq] at hsz
  obtain ⟨inf', hi', hz'⟩ := Option.bind_eq_some_iff.1 hz.h
  obtain rfl := Option.some.inj (hi.symm.trans hi')
  have hzc : z.cells.size = n0 := by rw [hz.cells]; simpa using Nat.eq_of_beq_eq_true hzs.1
  obtain ⟨v', w1, hr, o1, o2, _, o4⟩ := run_append_own_at (P := P) w' base t ty e inf z n0 b0 ht.h hi hz' hsz.1 hsz.2 hzc (Nat.le_of_ble_eq_true hzs.2) v n xs (own_ext hown hw) ad k c news hl
    (fun j u hj => (hnews.ext hw) j u hj) h1 h63 hb (Nat.le_trans hbase hw.size)
  have hr2 : (execOp a.eval ⟨some dst, .call { callee := .builtin .append, args := #[x, y], argTypes := #[t, t] }, ty, pos, after, g⟩).run P w' = .ok (.value v') w1 := by
    simp only [execOp, resolve, invoke, builtin, Sem.run_bind, Sem.run_pure, Result.andThen_ok, List.map_toArray, List.map_cons, List.map_nil, ha.ev hx, ha.ev hy, hr]
  unfold Oper.wp
  rw [hr2]
  exact (h v' w1 o1 (grow_ext hw o2) (o4.imp id (fun e => ⟨_, e, hw.size⟩))).out _ _ (ha.put (Nat.le_of_ble_eq_true hd) _) (Ext.refl _)
end
end Go.Proofs.Ytfakgiikobajnaa

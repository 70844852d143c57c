/-
  A walk over the code of a Go function that keeps the frame as a short list of slots, and the world as "any world that has grown from this one": the rules by which the walks of this seat step through operations, tests, loops and calls.
  No conditions beyond those that each rule states.
-/
import Derived.Test.YtfakgiikobajnaaVDraw
namespace Go.Proofs.Ytfakgiikobajnaa
open Go.RowKit

/-! ### Frames -/
abbrev Env := List (Nat × Value)
def look : Env → Nat → Option Value
  | [], _ => none
  | (j, v) :: r, i => match Nat.beq j i with
    | true => some v
    | false => look r i
theorem look_same (d : Nat) (v : Value) (m : Env) : look ((d, v) :: m) d = some v := by
  simp [look]
theorem look_other {d i : Nat} (v : Value) (m : Env) (h : d ≠ i) : look ((d, v) :: m) i = look m i := by
  have : Nat.beq d i = false := by
    cases hb : Nat.beq d i
    · rfl
    · exact absurd (Nat.eq_of_beq_eq_true hb) h
  simp [look, this]

structure Agree (N : Nat) (m : Env) (a : Act) : Prop where
  defers : a.defers = []
  size : a.tmps.size = N
  slot : ∀ i v, look m i = some v → a.tmps[i]? = some v

theorem Agree.put {N : Nat} {m : Env} {a : Act} (h : Agree N m a) {d : Nat} (hd : d < N) (v : Value) : Agree N ((d, v) :: m) (a.put (some d) v) := by
  refine ⟨h.defers, by simp [Act.put, h.size], fun i u hi => ?_⟩
  by_cases e : d = i
  · subst e
    rw [look_same] at hi
    cases hi
    simp [Act.put, h.size, hd]
  · rw [look_other _ _ e] at hi
    simp only [Act.put, Array.getElem?_setIfInBounds, e, if_false]
    exact h.slot i u hi
theorem Agree.put_none {N : Nat} {m : Env} {a : Act} (h : Agree N m a) (v : Value) : Agree N m (a.put none v) := h

/-- Every slot of the first list reads so in the second. -/
def Sub : Env → Env → Prop
  | [], _ => True
  | (i, v) :: r, m => look m i = some v ∧ Sub r m
theorem sub_look {m1 m : Env} (h : Sub m1 m) {i : Nat} {v : Value} (hi : look m1 i = some v) : look m i = some v := by
  induction m1 with
  | nil => simp [look] at hi
  | cons p r ih =>
    obtain ⟨j, u⟩ := p
    obtain ⟨h1, h2⟩ := h
    by_cases e : j = i
    · subst e; rw [look_same] at hi; cases hi; exact h1
    · rw [look_other _ _ e] at hi; exact ih h2 hi
theorem Agree.sub {N : Nat} {m m1 : Env} {a : Act} (h : Agree N m a) (hs : Sub m1 m) : Agree N m1 a :=
  ⟨h.defers, h.size, fun i v hi => h.slot i v (sub_look hs hi)⟩

def ev (m : Env) : Operand → Option Value
  | .tmp t => look m t
  | .const v => some v
  | .global g => some (.pointer (some ⟨g, 0, none⟩))
  | .func f => some (.func (.func f) #[] #[])
theorem Agree.ev {N : Nat} {m : Env} {a : Act} (h : Agree N m a) {x : Operand} {v : Value} (hx : ev m x = some v) : a.eval x = v := by
  cases x with
  | tmp t =>
    have := h.slot t v hx
    simp [Act.eval, this]
  | const u => simp only [ev.eq_2, Option.some.injEq] at hx; exact hx
  | global g => simp only [ev.eq_3, Option.some.injEq] at hx; exact hx
  | func f => simp only [ev.eq_4, Option.some.injEq] at hx; exact hx
def evs (m : Env) : List Operand → Option (List Value)
  | [] => some []
  | x :: r => match ev m x, evs m r with
    | some v, some vs => some (v :: vs)
    | _, _ => none
theorem Agree.evs {N : Nat} {m : Env} {a : Act} (h : Agree N m a) {xs : List Operand} {vs : List Value} (hx : evs m xs = some vs) : xs.map a.eval = vs := by
  induction xs generalizing vs with
  | nil => simp [Proofs.Ytfakgiikobajnaa.evs] at hx; simp [hx]
  | cons x r ih =>
    simp only [Proofs.Ytfakgiikobajnaa.evs] at hx
    split at hx
    · rename_i v vs' h1 h2
      cases hx
      simp [h.ev h1, ih h2]
    · cases hx

/-! ### Code -/
/-- What holds behind a piece of code, said of a short frame and of a world from which the world at hand has grown. -/
def lift (N : Nat) (Q : Exit → Env → World → Prop) : Exit → Act → World → Prop := fun e a w => ∃ m w1, Q e m w1 ∧ Agree N m a ∧ Ext w1 w
theorem lift_mono {N : Nat} {Q Q' : Exit → Env → World → Prop} (h : ∀ e m w, Q e m w → Q' e m w) {e : Exit} {a : Act} {w : World} (hl : lift N Q e a w) : lift N Q' e a w :=
  let ⟨m, w1, q, ag, ex⟩ := hl; ⟨m, w1, h _ _ _ q, ag, ex⟩

structure V (P : Program) (N : Nat) (c : Code) (Q : Exit → Env → World → Prop) (m : Env) (w : World) : Prop where
  out : ∀ a w', Agree N m a → Ext w w' → c.wp P (lift N Q) a w'

section
variable {P : Program} {N : Nat} {Q : Exit → Env → World → Prop} {m : Env} {w : World}

def thenV (K : Env → World → Prop) (Q : Exit → Env → World → Prop) : Exit → Env → World → Prop
  | .normal, m, w => K m w
  | e, m, w => Q e m w
theorem V_mono {c : Code} {Q' : Exit → Env → World → Prop} (hq : ∀ e m w, Q e m w → Q' e m w) (h : V P N c Q m w) : V P N c Q' m w :=
  ⟨fun a w' ha hw => Code.wp_mono (fun _ _ _ hl => lift_mono hq hl) (h.out a w' ha hw)⟩
theorem V_sub {c : Code} {m1 : Env} (hs : Sub m1 m) (h : V P N c Q m1 w) : V P N c Q m w := ⟨fun a w' ha hw => h.out a w' (ha.sub hs) hw⟩
theorem V_ext {c : Code} {w0 : World} (he : Ext w0 w) (h : V P N c Q m w0) : V P N c Q m w := ⟨fun a w' ha hw => h.out a w' ha (he.trans hw)⟩
theorem V_seq {x y : Code} (h : V P N x (thenV (fun m w => V P N y Q m w) Q) m w) : V P N (.seq x y) Q m w :=
  ⟨fun a w' ha hw => wp_seq (Code.wp_mono (fun e a1 w1 hl => by
    obtain ⟨m1, w2, q, ag, ex⟩ := hl
    cases e with
    | normal => exact q.out a1 w1 ag ex
    | _ => exact ⟨m1, w2, q, ag, ex⟩) (h.out a w' ha hw))⟩
theorem V_skip (h : Q .normal m w) : V P N .skip Q m w := ⟨fun _ _ ha hw => wp_skip ⟨m, w, h, ha, hw⟩⟩
theorem V_ret (h : Q .ret m w) : V P N .ret Q m w := ⟨fun _ _ ha hw => wp_ret ⟨m, w, h, ha, hw⟩⟩
theorem V_exit {id : Nat} (h : Q (.exit id) m w) : V P N (.exit id) Q m w := ⟨fun _ _ ha hw => wp_exit ⟨m, w, h, ha, hw⟩⟩
theorem V_cond {c : Operand} {x y : Code} {t : Bool} (hc : ev m c = some (.bool t)) (ht : t = true → V P N x Q m w) (hf : t = false → V P N y Q m w) : V P N (.cond c x y) Q m w :=
  ⟨fun a w' ha hw => wp_cond_split (ha.ev hc) (fun h => (ht h).out a w' ha hw) (fun h => (hf h).out a w' ha hw)⟩
theorem V_true {c : Operand} {x y : Code} (hc : ev m c = some (.bool true)) (h : V P N x Q m w) : V P N (.cond c x y) Q m w := V_cond hc (fun _ => h) (fun h => by cases h)
theorem V_false {c : Operand} {x y : Code} (hc : ev m c = some (.bool false)) (h : V P N y Q m w) : V P N (.cond c x y) Q m w := V_cond hc (fun h => by cases h) (fun _ => h)
theorem V_yes {c : Operand} {x y : Code} {t : Bool} (hc : ev m c = some (.bool t)) (e : t = true) (h : V P N x Q m w) : V P N (.cond c x y) Q m w := V_cond hc (fun _ => h) (fun h => by rw [e] at h; cases h)
theorem V_no {c : Operand} {x y : Code} {t : Bool} (hc : ev m c = some (.bool t)) (e : t = false) (h : V P N y Q m w) : V P N (.cond c x y) Q m w := V_cond hc (fun h => by rw [e] at h; cases h) (fun _ => h)
def blockV (id : Nat) (Q : Exit → Env → World → Prop) : Exit → Env → World → Prop
  | .exit id', m, w => if id' = id then Q .normal m w else Q (.exit id') m w
  | e, m, w => Q e m w
theorem V_block {id : Nat} {c : Code} (h : V P N c (blockV id Q) m w) : V P N (.block id c) Q m w :=
  ⟨fun a w' ha hw => wp_block (Code.wp_mono (fun e a1 w1 hl => by
    obtain ⟨m1, w2, q, ag, ex⟩ := hl
    cases e with
    | exit id' =>
      by_cases e : id' = id
      · subst e; simp only [blockV, if_true] at q; simp only [Exit.inBlock, if_true]; exact ⟨m1, w2, q, ag, ex⟩
      · simp only [blockV, e, if_false] at q; simp only [Exit.inBlock, e, if_false]; exact ⟨m1, w2, q, ag, ex⟩
    | _ => exact ⟨m1, w2, q, ag, ex⟩) (h.out a w' ha hw))⟩
theorem then_normal {K : Env → World → Prop} (h : K m w) : thenV K Q .normal m w := h
theorem then_ret {K : Env → World → Prop} (h : Q .ret m w) : thenV K Q .ret m w := h
theorem then_exit {K : Env → World → Prop} {id : Nat} (h : Q (.exit id) m w) : thenV K Q (.exit id) m w := h
theorem block_normal {id : Nat} (h : Q .normal m w) : blockV id Q .normal m w := h
theorem block_ret {id : Nat} (h : Q .ret m w) : blockV id Q .ret m w := h
theorem block_hit {id : Nat} (h : Q .normal m w) : blockV id Q (.exit id) m w := by simp only [blockV, if_true]; exact h
theorem block_miss {id id' : Nat} (hne : Nat.beq id' id = false) (h : Q (.exit id') m w) : blockV id Q (.exit id') m w := by
  have : id' ≠ id := fun e => by subst e; rw [Nat.beq_refl] at hne; cases hne
  simp only [blockV, this, if_false]; exact h

/-- Two pieces, the first of which may go several ways: behind it 's' is what is known. -/
theorem V_join {x y : Code} {σ : Type} (e : σ → Env) (I : σ → World → Prop)
    (h1 : V P N x (thenV (fun m' w' => ∃ s, Sub (e s) m' ∧ I s w') Q) m w) (h2 : ∀ s w', I s w' → V P N y Q (e s) w') : V P N (.seq x y) Q m w :=
  V_seq (V_mono (fun e m1 w1 hq => by
    cases e with
    | normal => obtain ⟨s, hs, hI⟩ := hq; exact V_sub hs (h2 s w1 hI)
    | _ => exact hq) h1)

/-- A loop: 's' is what changes from round to round: 'e s' the slots, 'I s' what holds of the world, 'μ s' a number that each round lowers. -/
theorem V_loop {c : Code} {σ : Type} (e : σ → Env) (I : σ → World → Prop) (μ : σ → Nat) (s0 : σ) (hs : Sub (e s0) m) (h0 : I s0 w)
    (round : ∀ s w, I s w → V P N c (thenV (fun m' w' => ∃ s', Sub (e s') m' ∧ I s' w' ∧ μ s' < μ s) Q) (e s) w) : V P N (.loop c) Q m w := by
  refine ⟨fun a w' ha hw => ?_⟩
  refine wp_loop_ghost (fun n a1 w1 => ∃ s w0, μ s = n ∧ Agree N (e s) a1 ∧ I s w0 ∧ Ext w0 w1) (μ s0) ⟨s0, w, rfl, ha.sub hs, h0, hw⟩ ?_
  rintro n a1 w1 ⟨s, w0, rfl, ag, hI, hE⟩
  refine Code.wp_mono (fun ex a2 w2 hl => ?_) ((round s w0 hI).out a1 w1 ag hE)
  obtain ⟨m2, w3, q, ag2, ex2⟩ := hl
  cases ex with
  | normal =>
    obtain ⟨s', hs', hI', hμ⟩ := q
    exact ⟨μ s', hμ, s', w3, rfl, ag2.sub hs', hI', ex2⟩
  | _ => exact ⟨m2, w3, q, ag2, ex2⟩
end

/-! ### A row of operations -/
section
variable {P : Program} {N : Nat} {ops : Array Oper} {dr : Bool} {K : Env → World → Prop} {m : Env} {w : World}

/-- The operations of a region, in the order of the text: 'dr': the region draws its order (then each operation must be quiet). -/
def OpsD (P : Program) (N : Nat) (ops : Array Oper) : Bool → (Env → World → Prop) → List Oper → Env → World → Prop
  | false, K, l, m, w => ∀ a w', Agree N m a → Ext w w' → wpList P ops (fun e a' w'' => e = .normal ∧ ∃ m' w1, K m' w1 ∧ Agree N m' a' ∧ Ext w1 w'') l a w'
  | true, K, l, m, w => ∀ a, Agree N m a → listY ops (yW P w) (fun a' => ∃ m', K m' w ∧ Agree N m' a') l a

structure Ops (P : Program) (N : Nat) (ops : Array Oper) (dr : Bool) (K : Env → World → Prop) (l : List Oper) (m : Env) (w : World) : Prop where
  out : OpsD P N ops dr K l m w

theorem V_region {Q : Exit → Env → World → Prop} {id : Nat} {l : List Oper} (h : Ops P N l.toArray false (fun m w => Q .normal m w) l m w) : V P N (.region id l.toArray false) Q m w :=
  ⟨fun a w' ha hw => Code.wp_mono (fun e a1 w1 ⟨he, m1, w2, q, ag, ex⟩ => by subst he; exact ⟨m1, w2, q, ag, ex⟩) (wp_region_lit (Q := fun e a' w'' => e = .normal ∧ ∃ m' w1, Q .normal m' w1 ∧ Agree N m' a' ∧ Ext w1 w'') (h.out a w' ha hw))⟩
theorem quietAt_mono {o : Oper} {a : Act} {C C' : World → Prop} {w : World} {v : Value} (h : ∀ w, C w → C' w) (hq : o.quietAt P a C w v) : o.quietAt P a C' w v := by
  unfold Oper.quietAt at *
  generalize (execOp a.eval o).run P w = r at *
  cases r with
  | ok nx w2 =>
    cases nx <;> simp only [Oper.quietUpon] at hq ⊢ <;> first | exact hq | exact ⟨hq.1, hq.2.mono fun e w3 h3 => ⟨h3.1, h _ h3.2⟩⟩
  | halt x w2 => simp only [Oper.quietUpon] at hq
theorem quiet_of_list {Q : Act → Prop} : ∀ (l : List Oper) (a : Act), listY ops (yW P w) Q l a → wpQuiet P ops (Ext w) Q l a
  | [], _, h => h
  | o :: r, a, h => by
    unfold listY at h
    unfold wpQuiet
    split
    · rename_i hw
      rw [if_pos hw] at h
      obtain ⟨v, h1, h2⟩ := h
      exact ⟨v, fun w' hw' => quietAt_mono (fun _ h3 => hw'.trans h3) (h1 w' hw'), quiet_of_list r _ h2⟩
    · rename_i hw
      rw [if_neg hw] at h
      exact quiet_of_list r _ h
theorem V_region_draw {Q : Exit → Env → World → Prop} {id : Nat} {l : List Oper} (hm : P.follows .mixedOrders = true) (hB : Region.lexB .any l.toArray = true)
    (h : Ops P N l.toArray true (fun m w => Q .normal m w) l m w) : V P N (.region id l.toArray true) Q m w :=
  ⟨fun a w' ha hw => wp_region_quiet (C := Ext w) hm hB hw.draw (by
    have hh : listY l.toArray (yW P w) (fun a' => ∃ m', Q .normal m' w ∧ Agree N m' a') l a := h.out a ha
    have := quiet_of_list l a (listY_mono (Q' := fun a' => ∀ w', Ext w w' → lift N Q .normal a' w') (fun a' ⟨m', q, ag⟩ w'' hw'' => ⟨m', w, q, ag, hw''⟩) l a hh)
    simpa using this)⟩
/-- No operation of the kinds that make or change memory (but for what calls do). -/
def stillB : Op → Bool
  | .store .. | .alloc .. | .box .. | .makeSlice .. | .makeMap .. | .insert .. | .buildSlice .. | .mapUpdate .. | .entryStore .. => false
  | .call { callee := .builtin .append, .. } | .call { callee := .builtin .copy, .. } | .call { callee := .builtin .delete, .. } => false
  | _ => true
theorem V_region_still {Q : Exit → Env → World → Prop} {id : Nat} {l : List Oper} (_ : l.all (fun o => stillB o.op) = true) (hm : P.follows .mixedOrders = true) (hB : Region.lexB .any l.toArray = true)
    (h : Ops P N l.toArray true (fun m w => Q .normal m w) l m w) : V P N (.region id l.toArray true) Q m w := V_region_draw hm hB h

theorem Ops_end {l : List Oper} (hl : l = []) (h : K m w) : Ops P N ops dr K l m w := by
  subst hl
  cases dr with
  | false => exact ⟨fun a w' ha hw => ⟨rfl, m, w, h, ha, hw⟩⟩
  | true => exact ⟨fun a ha => ⟨m, h, ha⟩⟩

/-- In every frame that agrees and every world that has grown from w: the operation leaves v, and a world that has grown from w. -/
structure Yl (P : Program) (N : Nat) (m : Env) (w : World) (o : Oper) (v : Value) : Prop where
  out : ∀ a w', Agree N m a → Ext w w' → o.quietAt P a (Ext w') w' v

/-- The operation's guard asks for it. -/
structure On (N : Nat) (ops : Array Oper) (m : Env) (o : Oper) : Prop where
  out : ∀ a, Agree N m a → Region.wanted o (yielded ops a.tmps) = true
structure Off (N : Nat) (ops : Array Oper) (m : Env) (o : Oper) : Prop where
  out : ∀ a, Agree N m a → Region.wanted o (yielded ops a.tmps) = false
theorem on_none {dst : Option Tmp} {op : Op} {ty : TypeId} {pos : String} {after : Array Edge} : On N ops m ⟨dst, op, ty, pos, after, none⟩ := ⟨fun _ _ => rfl⟩
theorem on_guard {dst : Option Tmp} {op : Op} {ty : TypeId} {pos : String} {after : Array Edge} {j d : Nat} {b : Bool} (hj : (ops[j]?).bind (·.dst) = some d) (hl : look m d = some (.bool b)) :
    On N ops m ⟨dst, op, ty, pos, after, some (j, b)⟩ := ⟨fun a ha => by
  simp [Region.wanted, yielded, hj, ha.slot d _ hl]⟩
theorem off_guard {dst : Option Tmp} {op : Op} {ty : TypeId} {pos : String} {after : Array Edge} {j d : Nat} {b b' : Bool} (hj : (ops[j]?).bind (·.dst) = some d) (hl : look m d = some (.bool b'))
    (hne : (b' == b) = false) : Off N ops m ⟨dst, op, ty, pos, after, some (j, b)⟩ := ⟨fun a ha => by
  simp only [Region.wanted, yielded, hj, Option.bind_some, ha.slot d _ hl]
  cases b <;> cases b' <;> simp at hne ⊢⟩
theorem off_undef {dst : Option Tmp} {op : Op} {ty : TypeId} {pos : String} {after : Array Edge} {j d : Nat} {b : Bool} (hj : (ops[j]?).bind (·.dst) = some d) (hl : look m d = some (.tuple #[])) :
    Off N ops m ⟨dst, op, ty, pos, after, some (j, b)⟩ := ⟨fun a ha => by
  simp [Region.wanted, yielded, hj, ha.slot d _ hl]⟩

theorem Ops_q {dst : Nat} {op : Op} {ty : TypeId} {pos : String} {after : Array Edge} {g : Option (Nat × Bool)} {rest : List Oper} {v : Value}
    (hon : On N ops m ⟨some dst, op, ty, pos, after, g⟩) (hd : Nat.ble (dst + 1) N = true) (hq : Yl P N m w ⟨some dst, op, ty, pos, after, g⟩ v)
    (h : Ops P N ops dr K rest ((dst, v) :: m) w) : Ops P N ops dr K (⟨some dst, op, ty, pos, after, g⟩ :: rest) m w := by
  have hlt : dst < N := Nat.le_of_ble_eq_true hd
  cases dr with
  | false =>
    refine ⟨fun a w' ha hw => ?_⟩
    unfold wpList
    rw [if_pos (hon.out a ha)]
    exact .inl (Oper.wp_of_quiet (C := Ext w) (K := fun a1 => Agree N ((dst, v) :: m) a1) hw (fun a1 w1 hw1 ha1 => h.out a1 w1 ha1 hw1) ⟨v, fun w1 hw1 => quietAt_mono (fun _ h3 => hw1.trans h3) (hq.out a w1 ha hw1), ha.put hlt v⟩)
  | true =>
    refine ⟨fun a ha => ?_⟩
    unfold listY
    rw [if_pos (hon.out a ha)]
    exact ⟨v, fun w1 hw1 => hq.out a w1 ha hw1, h.out _ (ha.put hlt v)⟩
/-- A call whose result goes nowhere. -/
theorem Ops_q0 {op : Op} {ty : TypeId} {pos : String} {after : Array Edge} {g : Option (Nat × Bool)} {rest : List Oper} {v : Value}
    (hon : On N ops m ⟨none, op, ty, pos, after, g⟩) (hq : Yl P N m w ⟨none, op, ty, pos, after, g⟩ v)
    (h : Ops P N ops dr K rest m w) : Ops P N ops dr K (⟨none, op, ty, pos, after, g⟩ :: rest) m w := by
  cases dr with
  | false =>
    refine ⟨fun a w' ha hw => ?_⟩
    unfold wpList
    rw [if_pos (hon.out a ha)]
    exact .inl (Oper.wp_of_quiet (C := Ext w) (K := fun a1 => Agree N m a1) hw (fun a1 w1 hw1 ha1 => h.out a1 w1 ha1 hw1) ⟨v, fun w1 hw1 => quietAt_mono (fun _ h3 => hw1.trans h3) (hq.out a w1 ha hw1), ha.put_none v⟩)
  | true =>
    refine ⟨fun a ha => ?_⟩
    unfold listY
    rw [if_pos (hon.out a ha)]
    exact ⟨v, fun w1 hw1 => hq.out a w1 ha hw1, h.out _ (ha.put_none v)⟩
theorem Ops_off {dst : Nat} {op : Op} {ty : TypeId} {pos : String} {after : Array Edge} {g : Option (Nat × Bool)} {rest : List Oper}
    (hoff : Off N ops m ⟨some dst, op, ty, pos, after, g⟩) (hd : Nat.ble (dst + 1) N = true)
    (h : Ops P N ops dr K rest ((dst, .tuple #[]) :: m) w) : Ops P N ops dr K (⟨some dst, op, ty, pos, after, g⟩ :: rest) m w := by
  have hlt : dst < N := Nat.le_of_ble_eq_true hd
  cases dr with
  | false =>
    refine ⟨fun a w' ha hw => ?_⟩
    unfold wpList
    rw [if_neg (by rw [hoff.out a ha]; exact Bool.false_ne_true)]
    exact h.out _ _ (ha.put hlt _) hw
  | true =>
    refine ⟨fun a ha => ?_⟩
    unfold listY
    rw [if_neg (by rw [hoff.out a ha]; exact Bool.false_ne_true)]
    exact h.out _ (ha.put hlt _)
theorem Ops_sub {l : List Oper} {m1 : Env} (hs : Sub m1 m) (h : Ops P N ops dr K l m1 w) : Ops P N ops dr K l m w := by
  cases dr with
  | false => exact ⟨fun a w' ha hw => h.out a w' (ha.sub hs) hw⟩
  | true => exact ⟨fun a ha => h.out a (ha.sub hs)⟩
/-- Two ways on, by a guard that is not decided. -/
theorem Ops_split {dst : Option Tmp} {op : Op} {ty : TypeId} {pos : String} {after : Array Edge} {j d : Nat} {b bb : Bool} {rest : List Oper}
    (_hj : (ops[j]?).bind (·.dst) = some d) (hl : look m d = some (.bool b))
    (ht : b = true → Ops P N ops dr K (⟨dst, op, ty, pos, after, some (j, bb)⟩ :: rest) ((d, .bool true) :: m) w)
    (hf : b = false → Ops P N ops dr K (⟨dst, op, ty, pos, after, some (j, bb)⟩ :: rest) ((d, .bool false) :: m) w) :
    Ops P N ops dr K (⟨dst, op, ty, pos, after, some (j, bb)⟩ :: rest) m w := by
  have sub : ∀ m' : Env, (∀ i v, look m' i = some v → look m i = some v) → ∀ l, Ops P N ops dr K l m' w → Ops P N ops dr K l m w := by
    intro m' hm l h
    have ag : ∀ {a}, Agree N m a → Agree N m' a := fun ha => ⟨ha.defers, ha.size, fun i v hi => ha.slot i v (hm i v hi)⟩
    cases dr with
    | false => exact ⟨fun a w' ha hw => h.out a w' (ag ha) hw⟩
    | true => exact ⟨fun a ha => h.out a (ag ha)⟩
  have hm : ∀ i v, look ((d, .bool b) :: m) i = some v → look m i = some v := by
    intro i v hi
    by_cases e : d = i
    · subst e; rw [look_same] at hi; rw [hl, ← hi]
    · rwa [look_other _ _ e] at hi
  cases b with
  | true => exact sub _ hm _ (ht rfl)
  | false => exact sub _ hm _ (hf rfl)
/-- A guard's value, put plainly. -/
theorem Ops_know {dst : Option Tmp} {op : Op} {ty : TypeId} {pos : String} {after : Array Edge} {j d : Nat} {b b' bb : Bool} {rest : List Oper}
    (hj : (ops[j]?).bind (·.dst) = some d) (hl : look m d = some (.bool b)) (e : b = b')
    (h : Ops P N ops dr K (⟨dst, op, ty, pos, after, some (j, bb)⟩ :: rest) ((d, .bool b') :: m) w) :
    Ops P N ops dr K (⟨dst, op, ty, pos, after, some (j, bb)⟩ :: rest) m w := by
  subst e
  refine Ops_split hj hl (fun e => ?_) (fun e => ?_) <;> subst e <;> exact h
omit ops dr K m w in
/-- An operation behind which only the normal way on is foreseen. -/
theorem wp_normal {o : Oper} {a : Act} {w : World} {K1 K2 : Act → World → Prop} {A : Act → World → Prop} {Q2 : Exit → Act → World → Prop} (h : ∀ a w, K1 a w → K2 a w)
    (hh : o.wp P a w K1 (fun e a w => e = .normal ∧ A a w)) : o.wp P a w K2 Q2 := by
  unfold Oper.wp at *
  generalize (execOp a.eval o).run P w = r at *
  cases r with
  | ok n w' =>
    cases n <;> simp only [Oper.upon] at hh ⊢ <;>
      first
        | exact h _ _ hh
        | exact Calls.mono hh (fun e w'' he => by
            cases e with
            | returned v => exact h _ _ he
            | panicked c => exact absurd he.1 (by simp)
            | outgrown => obtain ⟨_, _, he, _⟩ := he; cases he)
        | exact Rows.mono hh (fun _ _ he => h _ _ he)
  | halt x w' => cases x <;> simp only [Oper.upon] at hh ⊢ <;> first | exact absurd hh.1 (by simp) | exact hh
/-- A row of operations in two parts, the world being the same between them. -/
theorem Ops_cut (n : Nat) (M : Env) {l : List Oper} (h1 : Ops P N ops dr (fun m' w' => Sub M m' ∧ w' = w) (l.take n) m w) (h2 : Ops P N ops dr K (l.drop n) M w) :
    Ops P N ops dr K l m w := by
  have key : ∀ (l1 l2 : List Oper) (m0 : Env), Ops P N ops dr (fun m' w' => Sub M m' ∧ w' = w) l1 m0 w → Ops P N ops dr K l2 M w → Ops P N ops dr K (l1 ++ l2) m0 w := by
    intro l1 l2 m0 h1 h2
    cases dr with
    | false =>
      refine ⟨fun a w' ha hw => ?_⟩
      have h := h1.out a w' ha hw
      clear h1 ha hw
      induction l1 generalizing a w' with
      | nil =>
        obtain ⟨_, m', w1, ⟨hs, he⟩, ag, ex⟩ := h
        subst he
        exact h2.out a w' (ag.sub hs) ex
      | cons o r ih =>
        rw [List.cons_append]
        unfold wpList at h ⊢
        split
        · rename_i hwn
          rw [if_pos hwn] at h
          rcases h with h | h
          · exact .inl (wp_normal (fun a1 w1 hh => ih a1 w1 hh) h)
          · obtain ⟨_, _, _, he, _⟩ := h; cases he
        · rename_i hwn
          rw [if_neg hwn] at h
          exact ih _ _ h
    | true =>
      refine ⟨fun a ha => ?_⟩
      have h := h1.out a ha
      clear h1 ha
      induction l1 generalizing a with
      | nil =>
        obtain ⟨m', ⟨hs, he⟩, ag⟩ := h
        exact h2.out a (ag.sub hs)
      | cons o r ih =>
        rw [List.cons_append]
        unfold listY at h ⊢
        split
        · rename_i hwn
          rw [if_pos hwn] at h
          obtain ⟨v, h3, h4⟩ := h
          exact ⟨v, h3, ih _ h4⟩
        · rename_i hwn
          rw [if_neg hwn] at h
          exact ih _ h
  have := key _ _ _ h1 h2
  rwa [List.take_append_drop] at this
end
end Go.Proofs.Ytfakgiikobajnaa

/-
  The rules for single operations: what a move, an arithmetic operation, a load, a call .. leaves in its slot.
  No conditions beyond those that each rule states.
-/
import Derived.Test.YtfakgiikobajnaaV
import Derived.WalkSpells
import Derived.WalkLawsBesides
import Derived.Laws.BitsAllLaws
namespace Go.Proofs.Ytfakgiikobajnaa
open Go.RowKit

class TInt (P : Program) (t : TypeId) (k : outParam IntKind) : Prop where h : P.underlying t = some (.int k)
class TOne (P : Program) (t : TypeId) : Prop where h : ∀ w, (isAgg t).run P w = .ok false w
class TAgg (P : Program) (t : TypeId) (n : outParam Nat) : Prop where
  agg : ∀ w, (isAgg t).run P w = .ok true w
  size : (P.info? t).map (·.size) = some n
class TZero (P : Program) (t : TypeId) (z : outParam Value) (cs : outParam (List Value)) : Prop where
  h : (P.info? t).bind (·.zero) = some z
  cells : z.cells = cs.toArray
class TSize (P : Program) (t : TypeId) (n b : outParam Nat) : Prop where h : (P.info? t).map (fun i => (i.size, i.bytes)) = some (n, b)
class TField (P : Program) (s : TypeId) (f : Nat) (ft : outParam TypeId) (off : outParam Nat) : Prop where
  h : ∀ a w, (Instr.fieldAt s (.pointer (some a)) f).run P w = .ok (.pointer (some (a.add off))) w
class TPart1 (P : Program) (s : TypeId) (f : Nat) (off : outParam Nat) : Prop where
  h : ∀ cs w, (Instr.field s (.agg cs) f).run P w = ((match cs[off]? with | some v => pure v | none => stuck "part: no such cell") : Sem Value).run P w
class TPartN (P : Program) (s : TypeId) (f : Nat) (off n : outParam Nat) : Prop where
  h : ∀ cs w, (Instr.field s (.agg cs) f).run P w = .ok (.agg (cs.extract off (off + n))) w
/-- One row of cells laid over another from a place on. -/
def over : Nat → List Value → List Value → List Value
  | _, _, [] => []
  | 0, [], z :: zs => z :: zs
  | 0, v :: vc, _ :: zs => v :: over 0 vc zs
  | n + 1, vc, z :: zs => z :: over n vc zs
theorem over_nil : ∀ (n : Nat) (zs : List Value), over n [] zs = zs
  | 0, [] => rfl
  | _ + 1, [] => rfl
  | 0, _ :: _ => rfl
  | n + 1, z :: zs => by simp only [over, over_nil n zs]
theorem over_cons : ∀ (n : Nat) (v : Value) (vc zs : List Value), over n (v :: vc) zs = over (n + 1) vc (zs.set n v)
  | 0, _, _, [] => rfl
  | _ + 1, _, _, [] => rfl
  | 0, v, vc, z :: zs => rfl
  | n + 1, v, vc, z :: zs => by
    show z :: over n (v :: vc) zs = z :: over (n + 1) vc (zs.set n v)
    rw [over_cons n v vc zs]
/-- The cells of a value; a row laid into another; a struct built of its parts: looked up piece by piece. -/
class TCells (v : Value) (l : outParam (List Value)) : Prop where h : v.cells = l.toArray
instance (l : List Value) : TCells (.agg l.toArray) l := ⟨rfl⟩
instance (k : IntKind) (n : Int) : TCells (.int k n) [.int k n] := ⟨rfl⟩
instance (b : Bool) : TCells (.bool b) [.bool b] := ⟨rfl⟩
instance (b : ByteArray) : TCells (.string b) [.string b] := ⟨rfl⟩
instance (a : Option Addr) : TCells (.pointer a) [.pointer a] := ⟨rfl⟩
instance (a : Option Addr) (n c : Nat) : TCells (.slice a n c) [.slice a n c] := ⟨rfl⟩
instance (a : Option Nat) : TCells (.map a) [.map a] := ⟨rfl⟩
class TSplice (o : Nat) (vs cs : List Value) (out : outParam (List Value)) : Prop where
  h : over o vs cs = out
  len : o + vs.length ≤ cs.length
instance (cs : List Value) : TSplice 0 [] cs cs := ⟨over_nil 0 cs, by simp⟩
instance (v c : Value) (vs cs out : List Value) [x : TSplice 0 vs cs out] : TSplice 0 (v :: vs) (c :: cs) (v :: out) := ⟨by simp only [over, x.h], by have := x.len; simp; omega⟩
instance (n : Nat) (c : Value) (vs cs out : List Value) [x : TSplice n vs cs out] : TSplice (n + 1) vs (c :: cs) (c :: out) := ⟨by simp only [over, x.h], by have := x.len; simp; omega⟩
class TNext (i : Nat) (j : outParam Nat) : Prop where h : i + 1 = j
class TLen (l : List Value) (n : outParam Nat) : Prop where h : l.length = n
instance : TLen [] 0 := ⟨rfl⟩
instance (v : Value) (l : List Value) (n : Nat) [x : TLen l n] : TLen (v :: l) (n + 1) := ⟨by simp [x.h]⟩
instance (priority := low) (vs cs : List Value) (n : Nat) [x : TLen vs n] [y : TLen cs n] : TSplice 0 vs cs vs := ⟨by
  have : ∀ (as bs : List Value), as.length = bs.length → over 0 as bs = as := by
    intro as
    induction as with
    | nil => intro bs hb; cases bs <;> simp_all [over]
    | cons a r ih =>
      intro bs hb
      cases bs with
      | nil => simp at hb
      | cons b s => simp only [over]; rw [ih s (by simpa using hb)]
  exact this vs cs (x.h.trans y.h.symm), by rw [x.h, y.h]; simp⟩
/-- Each is one cell. -/
class OneAll (l : List Value) : Prop where h : l.all (fun u => u.oneCell') = true
class TAt (l : List (Nat × Nat)) (i : Nat) (p : outParam (Nat × Nat)) : Prop where h : l[i]? = some p
instance (p : Nat × Nat) (l : List (Nat × Nat)) : TAt (p :: l) 0 p := ⟨rfl⟩
instance (p q : Nat × Nat) (l : List (Nat × Nat)) (i : Nat) [x : TAt l i q] : TAt (p :: l) (i + 1) q := ⟨by simp [x.h]⟩
def fillL (places : List (Nat × Nat)) : List Value → List (Nat × Value) → Option (List Value)
  | zs, [] => some zs
  | zs, (i, v) :: r => match places[i]? with
    | none => none
    | some (off, size) => match Nat.beq v.cells.size size && Nat.ble (off + size) zs.length with
      | true => fillL places (over off v.cells.toList zs) r
      | false => none
class TFill (places : List (Nat × Nat)) (zs : List Value) (vs : List (Nat × Value)) (out : outParam (List Value)) : Prop where h : fillL places zs vs = some out
instance (pl : List (Nat × Nat)) (zs : List Value) : TFill pl zs [] zs := ⟨rfl⟩
instance (pl : List (Nat × Nat)) (zs zs' out vc : List Value) (i off size : Nat) (v : Value) (r : List (Nat × Value)) [x : TAt pl i (off, size)] [y : TCells v vc] [l : TLen vc size] [s : TSplice off vc zs zs'] [f : TFill pl zs' r out] :
    TFill pl zs ((i, v) :: r) out := ⟨by
  have e1 : v.cells.size = size := by rw [y.h]; simp [l.h]
  have e2 := s.len
  rw [l.h] at e2
  have e3 : (Nat.beq v.cells.size size && Nat.ble (off + size) zs.length) = true := by
    rw [e1, Nat.beq_refl, Nat.ble_eq_true_of_le e2]; rfl
  have e4 : over off v.cells.toList zs = zs' := by rw [y.h]; exact s.h
  simp only [fillL, x.h, e3, e4]
  exact f.h⟩
theorem fold_over (off : Nat) : ∀ (vc : List Value) (j : Nat) (zs : List Value), (vc.zipIdx j).foldl (fun (cs : Array Value) (p : Value × Nat) => cs.setIfInBounds (off + p.2) p.1) zs.toArray = (over (off + j) vc zs).toArray
  | [], j, zs => by simp [over_nil]
  | v :: vc, j, zs => by
    rw [List.zipIdx_cons, List.foldl_cons, over_cons]
    have := fold_over off vc (j + 1) (zs.set (off + j) v)
    rw [← Nat.add_assoc] at this
    rw [← this]
    simp
theorem fill_of {places : List (Nat × Nat)} : ∀ {vs : List (Nat × Value)} {zs cs : List Value}, fillL places zs vs = some cs → Instr.fill (places.toArray[·]?) zs.toArray vs = some cs.toArray
  | [], zs, cs, h => by simp only [fillL, Option.some.injEq] at h; simp [Instr.fill, h]
  | (i, v) :: r, zs, cs, h => by
    simp only [fillL] at h
    unfold Instr.fill
    cases hp : places[i]? with
    | none => simp [hp] at h
    | some q =>
      obtain ⟨off, size⟩ := q
      simp only [hp] at h
      split at h
      · rename_i hc
        simp only [Bool.and_eq_true] at hc
        have h1 := Nat.eq_of_beq_eq_true hc.1
        have h2 := Nat.le_of_ble_eq_true hc.2
        have e : v.cells.zipIdx.foldl (fun cs (x : Value × Nat) => match x with | (c, j) => cs.setIfInBounds (off + j) c) zs.toArray = (over off v.cells.toList zs).toArray := by
          have := fold_over off v.cells.toList 0 zs
          rw [Nat.add_zero] at this
          rw [← this, ← Array.foldl_toList, Array.toList_zipIdx]
        have e2 : places.toArray[i]? = some (off, size) := by simpa using hp
        simp only [e2]
        rw [if_neg (by simp; omega), e]
        exact fill_of h
      · cases h
class TBuild (P : Program) (t : TypeId) (places : outParam (List (Nat × Nat))) (zs : outParam (List Value)) : Prop where
  h : ∀ parts, P.built t parts = Instr.fill (places.toArray[·]?) zs.toArray parts
class TEqv (P : Program) (t : TypeId) (x y : Value) (b : outParam Bool) : Prop where
  h : ∀ w, (Op.equal t x y).run P w = .ok b w
  g : P.eqGuardType P.depth t = false
class TSlice (P : Program) (t : TypeId) (e : outParam TypeId) : Prop where h : P.underlying t = some (.slice e)
class TArray (P : Program) (t : TypeId) (n : outParam Nat) (e : outParam TypeId) : Prop where h : P.underlying t = some (.array n e)
class TMap (P : Program) (t : TypeId) (k e : outParam TypeId) : Prop where h : P.underlying t = some (.map k e)
class TBool (P : Program) (t : TypeId) : Prop where h : P.underlying t = some .bool
class TPtr (P : Program) (t : TypeId) (e : outParam TypeId) : Prop where h : P.underlying t = some (.pointer e)
class TFun (P : Program) (f : FuncId) : Prop where h : ∀ args w, (callFunc f args).run P w = .ok (.enter f args) w

section
variable {P : Program} {N : Nat} {m : Env} {w : World} {dst : Option Tmp} {ty : TypeId} {pos : String} {after : Array Edge} {g : Option (Nat × Bool)}

theorem Yl_of_run {o : Oper} {v : Value} (h : ∀ a w', Agree N m a → Ext w w' → (execOp a.eval o).run P w' = .ok (.value v) w') : Yl P N m w o v := ⟨fun a w' ha hw => by
  unfold Oper.quietAt; rw [h a w' ha hw]; exact ⟨rfl, rfl⟩⟩

theorem Yl_move {x : Operand} {v : Value} (hx : ev m x = some v) : Yl P N m w ⟨dst, .move x, ty, pos, after, g⟩ v :=
  Yl_of_run fun a w' ha _ => by simp [execOp, ha.ev hx]
theorem Yl_assign {x : Operand} {v : Value} (hx : ev m x = some v) : Yl P N m w ⟨dst, .assign x, ty, pos, after, g⟩ v :=
  Yl_of_run fun a w' ha _ => by simp [execOp, ha.ev hx]

/-- '&&' and '||' behind their guards. -/
def pickV : Bool → Value → Value → Value
  | true, a, _ => a
  | false, _, b => b
theorem Yl_pick {c x y : Operand} {t : Bool} {a b : Value} (hc : ev m c = some (.bool t)) (hx : ev m x = some a) (hy : ev m y = some b) : Yl P N m w ⟨dst, .pick c x y, ty, pos, after, g⟩ (pickV t a b) :=
  Yl_of_run fun ac w' ha _ => by cases t <;> simp [execOp, asBool, ha.ev hc, ha.ev hx, ha.ev hy, pickV]
theorem Yl_pick_true {c x y : Operand} {a : Value} (hc : ev m c = some (.bool true)) (hx : ev m x = some a) : Yl P N m w ⟨dst, .pick c x y, ty, pos, after, g⟩ a :=
  Yl_of_run fun ac w' ha _ => by simp [execOp, asBool, ha.ev hc, ha.ev hx]
theorem Yl_pick_false {c x y : Operand} {b : Value} (hc : ev m c = some (.bool false)) (hy : ev m y = some b) : Yl P N m w ⟨dst, .pick c x y, ty, pos, after, g⟩ b :=
  Yl_of_run fun ac w' ha _ => by simp [execOp, asBool, ha.ev hc, ha.ev hy]

/-- Operations on two integers that cannot panic; comparisons as 'decide'. -/
def cmpV : BinOp → Int → Int → Option Bool
  | .eql, a, b => some (decide (a = b))
  | .neq, a, b => some (!decide (a = b))
  | .lss, a, b => some (decide (a < b))
  | .leq, a, b => some (decide (a ≤ b))
  | .gtr, a, b => some (decide (b < a))
  | .geq, a, b => some (decide (b ≤ a))
  | _, _, _ => none
theorem Yl_cmp {op : BinOp} {t t' : TypeId} {x y : Operand} {k : IntKind} {a b : Int} {c : Bool} (hx : ev m x = some (.int k a)) (hy : ev m y = some (.int k b)) (hc : cmpV op a b = some c) :
    Yl P N m w ⟨dst, .binOp op t x y t', ty, pos, after, g⟩ (.bool c) :=
  Yl_of_run fun ac w' ha _ => by
    cases op <;> simp only [cmpV, Option.some.injEq, reduceCtorEq] at hc <;> subst hc <;> simp [execOp, ha.ev hx, ha.ev hy, binOp, eqGuard, Op.intCmp] <;> rfl
def arithV : BinOp → Int → Int → Option Int
  | .add, a, b => some (a + b)
  | .sub, a, b => some (a - b)
  | .mul, a, b => some (a * b)
  | _, _, _ => none
theorem Yl_arith {op : BinOp} {t t' : TypeId} {x y : Operand} {k : IntKind} {a b c : Int} (hx : ev m x = some (.int k a)) (hy : ev m y = some (.int k b)) (hc : arithV op a b = some c) :
    Yl P N m w ⟨dst, .binOp op t x y t', ty, pos, after, g⟩ (.int k (k.wrap c)) :=
  Yl_of_run fun ac w' ha _ => by
    cases op <;> simp only [arithV, Option.some.injEq, reduceCtorEq] at hc <;> subst hc <;> simp [execOp, ha.ev hx, ha.ev hy, binOp, eqGuard, Op.intArith]
/-- The numbers that a kind holds. -/
def InK : IntKind → Int → Prop
  | .i8, n => -128 ≤ n ∧ n ≤ 127
  | .i16, n => -32768 ≤ n ∧ n ≤ 32767
  | .i32, n => -2147483648 ≤ n ∧ n ≤ 2147483647
  | .i64, n => -9223372036854775808 ≤ n ∧ n ≤ 9223372036854775807
  | .u8, n => 0 ≤ n ∧ n ≤ 255
  | .u16, n => 0 ≤ n ∧ n ≤ 65535
  | .u32, n => 0 ≤ n ∧ n ≤ 4294967295
  | .u64, n => 0 ≤ n ∧ n ≤ 18446744073709551615
theorem wrap_in {k : IntKind} {n : Int} (h : InK k n) : k.wrap n = n := by
  cases k <;> simp only [InK] at h <;> simp [IntKind.wrap, IntKind.bits, IntKind.signed] <;> omega
theorem Yl_arith_in {op : BinOp} {t t' : TypeId} {x y : Operand} {k : IntKind} {a b c : Int} (hx : ev m x = some (.int k a)) (hy : ev m y = some (.int k b)) (hc : arithV op a b = some c) (hk : InK k c) :
    Yl P N m w ⟨dst, .binOp op t x y t', ty, pos, after, g⟩ (.int k c) := by
  have := Yl_arith (P := P) (N := N) (w := w) (dst := dst) (ty := ty) (pos := pos) (after := after) (g := g) (t := t) (t' := t') hx hy hc
  rwa [wrap_in hk] at this
def bitsV : BinOp → Bool
  | .and | .or | .xor | .andNot => true
  | _ => false
theorem Yl_bits {op : BinOp} {t t' : TypeId} {x y : Operand} {k : IntKind} {a b : Int} (hop : bitsV op = true) (hx : ev m x = some (.int k a)) (hy : ev m y = some (.int k b)) :
    Yl P N m w ⟨dst, .binOp op t x y t', ty, pos, after, g⟩ (.int k (bits op k a b)) :=
  Yl_of_run fun ac w' ha _ => by
    cases op <;> simp only [bitsV, Bool.false_eq_true] at hop <;> simp [execOp, ha.ev hx, ha.ev hy, binOp, eqGuard, intBits_and, intBits_or, intBits_xor, intBits_andNot]
theorem Yl_quo {t t' : TypeId} {x y : Operand} {k : IntKind} {a b : Int} (hx : ev m x = some (.int k a)) (hy : ev m y = some (.int k b)) (hb : b ≠ 0) :
    Yl P N m w ⟨dst, .binOp .quo t x y t', ty, pos, after, g⟩ (.int k (k.wrap (a.tdiv b))) :=
  Yl_of_run fun ac w' ha _ => by simp [execOp, ha.ev hx, ha.ev hy, binOp, eqGuard, Op.intDiv, hb]
theorem Yl_quo_in {t t' : TypeId} {x y : Operand} {a b : Int} (hx : ev m x = some (.int .i64 a)) (hy : ev m y = some (.int .i64 b)) (ha0 : 0 ≤ a ∧ a ≤ 9223372036854775807) (hb : 1 ≤ b) :
    Yl P N m w ⟨dst, .binOp .quo t x y t', ty, pos, after, g⟩ (.int .i64 (a / b)) := by
  have := Yl_quo (P := P) (N := N) (w := w) (dst := dst) (ty := ty) (pos := pos) (after := after) (g := g) (t := t) (t' := t') hx hy (by omega)
  have hd : 0 ≤ a / b := Int.ediv_nonneg ha0.1 (by omega)
  have hl : a / b ≤ a := Int.ediv_le_self _ ha0.1
  rwa [Int.tdiv_eq_ediv_of_nonneg ha0.1, wrap_in (by simp only [InK]; omega)] at this
theorem Yl_rem {t t' : TypeId} {x y : Operand} {k : IntKind} {a b : Int} (hx : ev m x = some (.int k a)) (hy : ev m y = some (.int k b)) (hb : b ≠ 0) :
    Yl P N m w ⟨dst, .binOp .rem t x y t', ty, pos, after, g⟩ (.int k (a.tmod b)) :=
  Yl_of_run fun ac w' ha _ => by simp [execOp, ha.ev hx, ha.ev hy, binOp, eqGuard, Op.intDiv, hb]
theorem Yl_rem_in {t t' : TypeId} {x y : Operand} {k : IntKind} {a b : Int} (hx : ev m x = some (.int k a)) (hy : ev m y = some (.int k b)) (ha0 : 0 ≤ a) (hb : 1 ≤ b) :
    Yl P N m w ⟨dst, .binOp .rem t x y t', ty, pos, after, g⟩ (.int k (a % b)) := by
  have := Yl_rem (P := P) (N := N) (w := w) (dst := dst) (ty := ty) (pos := pos) (after := after) (g := g) (t := t) (t' := t') hx hy (by omega)
  rwa [Int.tmod_eq_emod_of_nonneg ha0] at this
theorem Yl_shl {t t' : TypeId} {x y : Operand} {k yk : IntKind} {a b : Int} (hx : ev m x = some (.int k a)) (hy : ev m y = some (.int yk b)) (hb : 0 ≤ b ∧ b ≤ k.bits) :
    Yl P N m w ⟨dst, .binOp .shl t x y t', ty, pos, after, g⟩ (.int k (k.wrap (a * 2 ^ b.toNat))) :=
  Yl_of_run fun ac w' ha _ => by
    have h1 : ¬ b < 0 := by omega
    have h2 : min b.toNat k.bits = b.toNat := by omega
    simp [execOp, ha.ev hx, ha.ev hy, binOp, eqGuard, Op.shift, h1, h2]
theorem Yl_shl_in {t t' : TypeId} {x y : Operand} {k yk : IntKind} {a b : Int} (hx : ev m x = some (.int k a)) (hy : ev m y = some (.int yk b)) (hb : 0 ≤ b ∧ b ≤ k.bits) (hk : InK k (a * 2 ^ b.toNat)) :
    Yl P N m w ⟨dst, .binOp .shl t x y t', ty, pos, after, g⟩ (.int k (a * 2 ^ b.toNat)) := by
  have := Yl_shl (P := P) (N := N) (w := w) (dst := dst) (ty := ty) (pos := pos) (after := after) (g := g) (t := t) (t' := t') hx hy hb
  rwa [wrap_in hk] at this
theorem Yl_shr {t t' : TypeId} {x y : Operand} {k yk : IntKind} {a b : Int} (hx : ev m x = some (.int k a)) (hy : ev m y = some (.int yk b)) (hb : 0 ≤ b ∧ b ≤ k.bits) :
    Yl P N m w ⟨dst, .binOp .shr t x y t', ty, pos, after, g⟩ (.int k (a / 2 ^ b.toNat)) :=
  Yl_of_run fun ac w' ha _ => by
    have h1 : ¬ b < 0 := by omega
    have h2 : min b.toNat k.bits = b.toNat := by omega
    have h3 : a.fdiv (2 ^ b.toNat) = a / 2 ^ b.toNat := Int.fdiv_eq_ediv_of_nonneg _ (Int.le_of_lt (Int.pow_pos (by omega)))
    simp [execOp, ha.ev hx, ha.ev hy, binOp, eqGuard, Op.shift, h1, h2, h3]
theorem Yl_shr1 {t t' : TypeId} {x y : Operand} {k yk : IntKind} {a : Int} (hx : ev m x = some (.int k a)) (hy : ev m y = some (.int yk 1)) :
    Yl P N m w ⟨dst, .binOp .shr t x y t', ty, pos, after, g⟩ (.int k (a / 2)) :=
  Yl_shr hx hy ⟨by omega, by cases k <;> simp [IntKind.bits]⟩
theorem eqb_run {t : TypeId} (hu : P.underlying t = some .bool) (a b : Bool) (w : World) : (Op.equal t (.bool a) (.bool b)).run P w = .ok (a == b) w := by
  have h : ∀ d : Nat, (Op.equalIn (d + 1) t (.bool a) (.bool b)).run P w = .ok (a == b) w := fun d => by simp [Op.equalIn, run_underlying hu]
  exact h 9999
theorem eqp_run {t e : TypeId} (hu : P.underlying t = some (.pointer e)) (p : Option Addr) (w : World) : (Op.equal t (.pointer p) (.pointer none)).run P w = .ok p.isNone w := by
  have h : ∀ d : Nat, (Op.equalIn (d + 1) t (.pointer p) (.pointer none)).run P w = .ok p.isNone w := fun d => by cases p <;> simp [Op.equalIn, run_underlying hu]
  exact h 9999
theorem Yl_eqb {t t' : TypeId} {x y : Operand} {a b : Bool} [hu : TBool P t] (hx : ev m x = some (.bool a)) (hy : ev m y = some (.bool b)) :
    Yl P N m w ⟨dst, .binOp .eql t x y t', ty, pos, after, g⟩ (.bool (a == b)) :=
  Yl_of_run fun ac w' ha _ => by
    simp [execOp, ha.ev hx, ha.ev hy, binOp, eqGuard, eqb_run hu.h]
theorem Yl_neb {t t' : TypeId} {x y : Operand} {a b : Bool} [hu : TBool P t] (hx : ev m x = some (.bool a)) (hy : ev m y = some (.bool b)) :
    Yl P N m w ⟨dst, .binOp .neq t x y t', ty, pos, after, g⟩ (.bool (!(a == b))) :=
  Yl_of_run fun ac w' ha _ => by
    simp [execOp, ha.ev hx, ha.ev hy, binOp, eqGuard, eqb_run hu.h]
/-- A pointer held against nil. -/
theorem Yl_eqnil {t t' e : TypeId} {x y : Operand} {p : Option Addr} [hu : TPtr P t e] (hx : ev m x = some (.pointer p)) (hy : ev m y = some (.pointer none)) :
    Yl P N m w ⟨dst, .binOp .eql t x y t', ty, pos, after, g⟩ (.bool p.isNone) :=
  Yl_of_run fun ac w' ha _ => by
    simp [execOp, ha.ev hx, ha.ev hy, binOp, eqGuard, eqp_run hu.h]
theorem Yl_nenil {t t' e : TypeId} {x y : Operand} {p : Option Addr} [hu : TPtr P t e] (hx : ev m x = some (.pointer p)) (hy : ev m y = some (.pointer none)) :
    Yl P N m w ⟨dst, .binOp .neq t x y t', ty, pos, after, g⟩ (.bool p.isSome) :=
  Yl_of_run fun ac w' ha _ => by
    simp [execOp, ha.ev hx, ha.ev hy, binOp, eqGuard, eqp_run hu.h]
theorem Yl_not {t : TypeId} {x : Operand} {b : Bool} (hx : ev m x = some (.bool b)) : Yl P N m w ⟨dst, .unOp .not t x, ty, pos, after, g⟩ (.bool (!b)) :=
  Yl_of_run fun ac w' ha _ => by simp [execOp, ha.ev hx, Op.unary]
theorem Yl_conv {s d s' : TypeId} {x : Operand} {k k0 k' : IntKind} {n : Int} [hd : TInt P d k'] [hs : TInt P s k0] (hx : ev m x = some (.int k n)) :
    Yl P N m w ⟨dst, .convert s d x, s', pos, after, g⟩ (.int k' (k'.wrap n)) :=
  Yl_of_run fun ac w' ha _ => by
    simp [execOp, ha.ev hx, convert, run_underlying hd.h, run_underlying hs.h, Conv.intToInt]
theorem Yl_conv_in {s d s' : TypeId} {x : Operand} {k k0 k' : IntKind} {n : Int} [hd : TInt P d k'] [hs : TInt P s k0] (hx : ev m x = some (.int k n)) (hk : InK k' n) :
    Yl P N m w ⟨dst, .convert s d x, s', pos, after, g⟩ (.int k' n) := by
  have := Yl_conv (P := P) (N := N) (w := w) (dst := dst) (s' := s') (pos := pos) (after := after) (g := g) (s := s) (d := d) hx
  rwa [wrap_in hk] at this
theorem Yl_nilCheck {x : Operand} {a : Addr} (hx : ev m x = some (.pointer (some a))) : Yl P N m w ⟨dst, .nilCheck x, ty, pos, after, g⟩ (.pointer (some a)) :=
  Yl_of_run fun ac w' ha _ => by simp [execOp, ha.ev hx]
theorem add_blk (b o n : Nat) : (⟨b, o, none⟩ : Addr).add n = ⟨b, o + n, none⟩ := by unfold Addr.add; split <;> simp_all
theorem Yl_fieldAddr {s ft : TypeId} {f off : Nat} {x : Operand} {a : Addr} [hf : TField P s f ft off] (hx : ev m x = some (.pointer (some a))) :
    Yl P N m w ⟨dst, .fieldAddr s x f, ty, pos, after, g⟩ (.pointer (some (a.add off))) :=
  Yl_of_run fun ac w' ha _ => by simp [execOp, ha.ev hx, hf.h]
/-- A field of a block that is known from its head on. -/
theorem Yl_fieldAddr0 {s ft : TypeId} {f off : Nat} {x : Operand} {b : Nat} [hf : TField P s f ft off] (hx : ev m x = some (.pointer (some ⟨b, 0, none⟩))) :
    Yl P N m w ⟨dst, .fieldAddr s x f, ty, pos, after, g⟩ (.pointer (some ⟨b, off, none⟩)) := by
  have := Yl_fieldAddr (P := P) (N := N) (w := w) (dst := dst) (ty := ty) (pos := pos) (after := after) (g := g) (s := s) (f := f) hx
  rwa [add_blk, Nat.zero_add] at this
theorem Yl_field1 {s : TypeId} {f off : Nat} {x : Operand} {cs : List Value} {v : Value} [hf : TPart1 P s f off] (hx : ev m x = some (.agg cs.toArray)) (hv : cs[off]? = some v) :
    Yl P N m w ⟨dst, .field s x f, ty, pos, after, g⟩ v :=
  Yl_of_run fun ac w' ha _ => by simp [execOp, ha.ev hx, hf.h, hv]
theorem Yl_fieldN {s : TypeId} {f off n : Nat} {x : Operand} {cs : List Value} [hf : TPartN P s f off n] (hx : ev m x = some (.agg cs.toArray)) :
    Yl P N m w ⟨dst, .field s x f, ty, pos, after, g⟩ (.agg ((cs.drop off).take n).toArray) :=
  Yl_of_run fun ac w' ha _ => by
    have e : cs.toArray.extract off (off + n) = ((cs.drop off).take n).toArray := by
      simp [List.extract_eq_take_drop]
    simp [execOp, ha.ev hx, hf.h, e]
def evp (m : Env) : List (Nat × Operand) → Option (List (Nat × Value))
  | [] => some []
  | (i, x) :: r => match ev m x, evp m r with
    | some v, some vs => some ((i, v) :: vs)
    | _, _ => none
theorem Agree.evp {a : Act} (h : Agree N m a) {xs : List (Nat × Operand)} {vs : List (Nat × Value)} (hx : evp m xs = some vs) : xs.map (fun p => (p.1, a.eval p.2)) = vs := by
  induction xs generalizing vs with
  | nil => simp [Proofs.Ytfakgiikobajnaa.evp] at hx; simp [hx]
  | cons x r ih =>
    obtain ⟨i, x⟩ := x
    simp only [Proofs.Ytfakgiikobajnaa.evp] at hx
    split at hx
    · rename_i v vs' h1 h2
      cases hx
      simp [h.ev h1, ih h2]
    · cases hx
theorem Yl_build {t : TypeId} {ps : Array (Nat × Operand)} {vs : List (Nat × Value)} {places : List (Nat × Nat)} {zs cs : List Value} [ht : TBuild P t places zs] (hp : evp m ps.toList = some vs) [hf : TFill places zs vs cs] :
    Yl P N m w ⟨dst, .build t ps, ty, pos, after, g⟩ (.agg cs.toArray) :=
  Yl_of_run fun ac w' ha _ => by
    have e1 : ps.map (fun p => (p.1, ac.eval p.2)) = vs.toArray := by rw [← ha.evp hp, ← Array.toList_map]
    have hb : P.built t vs = some cs.toArray := by rw [ht.h, fill_of hf.h]
    have := run_build (P := P) w' t vs.toArray cs.toArray hb
    simp only [execOp, e1]
    simp [this]
theorem Yl_eqS {t t' : TypeId} {x y : Operand} {a b : Array Value} {c : Bool} (hx : ev m x = some (.agg a)) (hy : ev m y = some (.agg b)) [hu : TEqv P t (.agg a) (.agg b) c] :
    Yl P N m w ⟨dst, .binOp .eql t x y t', ty, pos, after, g⟩ (.bool c) :=
  Yl_of_run fun ac w' ha _ => by
    simp [execOp, ha.ev hx, ha.ev hy, binOp, eqGuard, hu.h, hu.g]
theorem Yl_neS {t t' : TypeId} {x y : Operand} {a b : Array Value} {c : Bool} (hx : ev m x = some (.agg a)) (hy : ev m y = some (.agg b)) [hu : TEqv P t (.agg a) (.agg b) c] :
    Yl P N m w ⟨dst, .binOp .neq t x y t', ty, pos, after, g⟩ (.bool (!c)) :=
  Yl_of_run fun ac w' ha _ => by
    simp [execOp, ha.ev hx, ha.ev hy, binOp, eqGuard, hu.h, hu.g]
theorem Yl_extract {x : Operand} {i : Nat} {vs : List Value} {v : Value} (hx : ev m x = some (.tuple vs.toArray)) (hv : vs[i]? = some v) : Yl P N m w ⟨dst, .extract x i, ty, pos, after, g⟩ v :=
  Yl_of_run fun ac w' ha _ => by simp [execOp, ha.ev hx, Instr.extract, hv]
theorem Yl_len {t e : TypeId} {x : Operand} {A : Option Addr} {n c : Nat} [ht : TSlice P t e] (hx : ev m x = some (.slice A n c)) :
    Yl P N m w ⟨dst, .call { callee := .builtin .len, args := #[x], argTypes := #[t] }, ty, pos, after, g⟩ (.int .i64 n) :=
  Yl_of_run fun ac w' ha _ => by
    simp [execOp, resolve, invoke, builtin, ha.ev hx, Builtin.len_, run_underlying ht.h, goInt]
theorem Yl_min {t : Array TypeId} {x y : Operand} {k : IntKind} {a b : Int} (hx : ev m x = some (.int k a)) (hy : ev m y = some (.int k b)) :
    Yl P N m w ⟨dst, .call { callee := .builtin .min, args := #[x, y], argTypes := t }, ty, pos, after, g⟩ (.int k (min a b)) :=
  Yl_of_run fun ac w' ha _ => by
    have e : (if b < a then b else a) = min a b := by omega
    simp [execOp, resolve, invoke, builtin, ha.ev hx, ha.ev hy, Builtin.min_, Builtin.min2, e]
theorem Yl_max {t : Array TypeId} {x y : Operand} {k : IntKind} {a b : Int} (hx : ev m x = some (.int k a)) (hy : ev m y = some (.int k b)) :
    Yl P N m w ⟨dst, .call { callee := .builtin .max, args := #[x, y], argTypes := t }, ty, pos, after, g⟩ (.int k (max a b)) :=
  Yl_of_run fun ac w' ha _ => by
    have e : (if a < b then b else a) = max a b := by omega
    simp [execOp, resolve, invoke, builtin, ha.ev hx, ha.ev hy, Builtin.max_, Builtin.max2, e]
theorem Yl_indexS {t e : TypeId} {n0 b0 : Nat} {x i : Operand} {ad : Addr} {n c : Nat} {k : IntKind} {j : Nat} [ht : TSlice P t e] [hs : TSize P e n0 b0] (hx : ev m x = some (.slice (some ad) n c))
    (hi : ev m i = some (.int k (j : Int))) (hj : j < n) : Yl P N m w ⟨dst, .indexAddr t x i, ty, pos, after, g⟩ (.pointer (some (ad.add (j * n0)))) :=
  Yl_of_run fun ac w' ha _ => by
    obtain ⟨inf, h1, h2⟩ := Option.map_eq_some_iff.1 hs.h
    simp only [Prod.mk.injEq] at h2
    simp [execOp, ha.ev hx, ha.ev hi, Instr.indexAt, asIntOf, run_underlying ht.h, sizeOf, typeInfo, h1, h2.1, hj]
theorem Yl_indexA {t e : TypeId} {n n0 b0 : Nat} {x i : Operand} {ad : Addr} {k : IntKind} {j : Nat} [ht : TArray P t n e] [hs : TSize P e n0 b0] (hx : ev m x = some (.pointer (some ad)))
    (hi : ev m i = some (.int k (j : Int))) (hj : j < n) : Yl P N m w ⟨dst, .indexAddr t x i, ty, pos, after, g⟩ (.pointer (some (ad.add (j * n0)))) :=
  Yl_of_run fun ac w' ha _ => by
    obtain ⟨inf, h1, h2⟩ := Option.map_eq_some_iff.1 hs.h
    simp only [Prod.mk.injEq] at h2
    simp [execOp, ha.ev hx, ha.ev hi, Instr.indexAt, asIntOf, Instr.sureAddr, run_underlying ht.h, sizeOf, typeInfo, h1, h2.1, hj]
theorem map_evs {a : Act} (ha : Agree N m a) {xs : Array Operand} {vs : List Value} (h : evs m xs.toList = some vs) : xs.map a.eval = vs.toArray := by
  rw [← ha.evs h, ← Array.toList_map]
theorem Yl_makeFunc {fn : Fn} {first cap : Array Operand} {vs us : List Value} (h1 : evs m first.toList = some vs) (h2 : evs m cap.toList = some us) :
    Yl P N m w ⟨dst, .makeFunc fn first cap, ty, pos, after, g⟩ (.func fn vs.toArray us.toArray) :=
  Yl_of_run fun ac w' ha _ => by
    have e1 : first.map ac.eval = vs.toArray := map_evs ha h1
    have e2 : cap.map ac.eval = us.toArray := map_evs ha h2
    simp [execOp, Instr.makeFunc, e1, e2]

/-! ### Loads -/
/-- The cells from an address on. -/
def Cells (w : World) (a : Addr) (vs : List Value) : Prop := ∀ j v, vs[j]? = some v → w.cell? (a.add j) = some v
theorem Cells.ext {w' : World} {a : Addr} {vs : List Value} (h : Cells w a vs) (he : Ext w w') : Cells w' a vs := fun j v hj => he.cell (h j v hj)
theorem Yl_load {t : TypeId} {x : Operand} {a : Addr} {v : Value} [ht : TOne P t] (hx : ev m x = some (.pointer (some a))) (hc : w.cell? a = some v) : Yl P N m w ⟨dst, .load t x, ty, pos, after, g⟩ v :=
  Yl_of_run fun ac w' ha hw => by
    simp [execOp, ha.ev hx, Instr.loadAt, Instr.sureAddr, loadVar, ht.h, hw.cell hc]
theorem Yl_loadN {t : TypeId} {n : Nat} {x : Operand} {a : Addr} {vs : List Value} [ht : TAgg P t n] (hx : ev m x = some (.pointer (some a))) (hc : Cells w a vs) (hn : TLen vs n) :
    Yl P N m w ⟨dst, .load t x, ty, pos, after, g⟩ (.agg vs.toArray) :=
  Yl_of_run fun ac w' ha hw => by
    obtain ⟨inf, h1, h2⟩ := Option.map_eq_some_iff.1 ht.size
    have hl := run_loadCells_list (P := P) w' a vs (fun j v hj => (hc.ext hw) j v hj)
    rw [hn.h] at hl
    simp [execOp, ha.ev hx, Instr.loadAt, Instr.sureAddr, loadVar, ht.agg, sizeOf, typeInfo, h1, h2, hl]

/-! ### Calls -/
/-- What a function that only computes leaves: its value, and a world that has at most grown. -/
abbrev Ret (v : Value) (w : World) : Ending → World → Prop := fun e w' => e = .returned v ∧ Ext w w'
theorem Yl_call {f : FuncId} {xs : Array Operand} {ats : Array TypeId} {vs : List Value} {v : Value} [hf : TFun P f] (hx : evs m xs.toList = some vs)
    (hc : ∀ w', Ext w w' → Calls P f vs.toArray w' (Ret v w')) : Yl P N m w ⟨dst, .call { callee := .value (.func f), args := xs, argTypes := ats }, ty, pos, after, g⟩ v := ⟨fun a w' ha hw => by
  have e1 : xs.map a.eval = vs.toArray := map_evs ha hx
  have hr : (execOp a.eval ⟨dst, .call { callee := .value (.func f), args := xs, argTypes := ats }, ty, pos, after, g⟩).run P w' = .ok (.enter f vs.toArray) w' := by
    rw [execOp_call_go, e1]
    simpa using hf.h vs.toArray w'
  unfold Oper.quietAt
  rw [hr]
  exact ⟨rfl, (hc w' hw).mono fun e w'' ⟨he, hw''⟩ => ⟨he, hw''⟩⟩⟩
/-- A call of a function value. -/
theorem Yl_callv {f : FuncId} {t : Operand} {first cap : List Value} {xs : Array Operand} {ats : Array TypeId} {vs : List Value} {v : Value} [hf : TFun P f]
    (ht : ev m t = some (.func (.func f) first.toArray cap.toArray)) (hx : evs m xs.toList = some vs)
    (hc : ∀ w', Ext w w' → Calls P f (first ++ vs ++ cap).toArray w' (Ret v w')) : Yl P N m w ⟨dst, .call { callee := .value t, args := xs, argTypes := ats }, ty, pos, after, g⟩ v := ⟨fun a w' ha hw => by
  have e1 : xs.map a.eval = vs.toArray := map_evs ha hx
  have hr : (execOp a.eval ⟨dst, .call { callee := .value t, args := xs, argTypes := ats }, ty, pos, after, g⟩).run P w' = .ok (.enter f (first ++ vs ++ cap).toArray) w' := by
    have := hf.h (first ++ vs ++ cap).toArray w'
    simp only [execOp, resolve, e1, ha.ev ht, Deferred.ofValue, invoke]
    simpa [Array.append_assoc] using this
  unfold Oper.quietAt
  rw [hr]
  exact ⟨rfl, (hc w' hw).mono fun e w'' ⟨he, hw''⟩ => ⟨he, hw''⟩⟩⟩
end
end Go.Proofs.Ytfakgiikobajnaa

/-
  The engine, part two: one lemma for each kind of operation. Conditions: none; every lemma is over any program.
-/
import Derived.Test.YtdenoambgonomaaEng
import Derived.Deep.Quiet
import Derived.OrdersHeld
import Derived.KernelRfl
set_option linter.unusedVariables false
set_option linter.unusedSimpArgs false
namespace Go.E
open Go Go.RowKit

theorem run_program (P : Program) (w : World) : (program).run P w = .ok P w := rfl

/-! ### Facts on types, as classes: their instances stand in a text of their own -/

class SliceT (P : Program) (t : TypeId) (el : outParam TypeId) : Prop where
  u : P.underlying t = some (.slice el)
class ArrayT (P : Program) (t : TypeId) (n : outParam Nat) (el : outParam TypeId) : Prop where
  u : P.underlying t = some (.array n el)
class MapT (P : Program) (t : TypeId) (k el : outParam TypeId) : Prop where
  u : P.underlying t = some (.map k el)
class IntT (P : Program) (t : TypeId) (k : outParam IntKind) : Prop where
  u : P.underlying t = some (.int k)
class BoolT (P : Program) (t : TypeId) : Prop where
  u : P.underlying t = some .bool
/-- a type's cells, bytes and zero -/
class ElemT (P : Program) (t : TypeId) (sz bytes : outParam Nat) (z : outParam (List Value)) : Prop where
  i : (P.info? t).map (fun i => (i.size, i.bytes, i.zero.map fun v => v.cells.toList)) = some (sz, bytes, some z)
  l : z.length = sz
/-- one cell -/
class ScalarT (P : Program) (t : TypeId) : Prop where
  u : (match P.underlying t with | some (.struct _) | some (.array _ _) | none => false | _ => true) = true
/-- several cells -/
class AggT (P : Program) (t : TypeId) : Prop where
  u : (match P.underlying t with | some (.struct _) | some (.array _ _) => true | _ => false) = true
/-- a field: its type, its place, how many cells, whether they are handed on as an aggregate -/
class FieldT (P : Program) (s : TypeId) (f : Nat) (ft off sz : outParam Nat) (agg : outParam Bool) : Prop where
  u : (match P.underlying s with
    | some (.struct fs) => match fs[f]? with
      | some fd => decide (fd.type = ft ∧ fd.offset = off ∧ sz ≠ 0) && ((P.info? ft).map (·.size) == some sz) && ((match P.underlying ft with | some (.struct _) | some (.array _ _) => some true | none => none | _ => some false) == some agg)
      | none => false
    | _ => false) = true

/-- a struct type: where its fields lie -/
class StructT (P : Program) (t : TypeId) (pl : outParam (List (Nat × Nat))) : Prop where
  u : (match P.underlying t with
    | some (.struct fs) => decide (fs.toList.map (fun f => (P.info? f.type).map fun i => (f.offset, i.size)) = pl.map some)
    | _ => false) = true

section types
variable {P : Program}
theorem ElemT.get {t : TypeId} {sz bytes : Nat} {z : List Value} (h : ElemT P t sz bytes z) : ∃ (i : TypeInfo) (v : Value), P.info? t = some i ∧ i.size = sz ∧ i.bytes = bytes ∧ i.zero = some v ∧ v.cells = z.toArray := by
  have := h.i
  cases hi : P.info? t with
  | none => simp [hi] at this
  | some i =>
    simp only [hi, Option.map_some, Option.some.injEq, Prod.mk.injEq] at this
    obtain ⟨h1, h2, h3⟩ := this
    cases hz : i.zero with
    | none => simp [hz] at h3
    | some v =>
      refine ⟨i, v, rfl, h1, h2, hz, ?_⟩
      simp only [hz, Option.map_some, Option.some.injEq] at h3
      rw [← h3]

theorem run_sizeOf {t : TypeId} {sz bytes : Nat} {z : List Value} (h : ElemT P t sz bytes z) (w : World) : (sizeOf t).run P w = .ok sz w := by
  obtain ⟨i, v, hi, h1, _⟩ := h.get
  simp [sizeOf, typeInfo, run_program, hi, h1]

theorem run_zero {t : TypeId} {sz bytes : Nat} {z : List Value} (h : ElemT P t sz bytes z) (w : World) : ∃ v, (zeroValue t).run P w = .ok v w ∧ v.cells = z.toArray := by
  obtain ⟨i, v, hi, h1, h2, hz, hv⟩ := h.get
  exact ⟨v, by simp [zeroValue, typeInfo, run_program, hi, hz], hv⟩

theorem run_isAgg_f {t : TypeId} (h : ScalarT P t) (w : World) : (isAgg t).run P w = .ok false w := by
  have := h.u
  cases hu : P.underlying t with
  | none => simp [hu] at this
  | some d => cases d <;> simp_all [isAgg, underlying, run_program]

theorem run_isAgg_t {t : TypeId} (h : AggT P t) (w : World) : (isAgg t).run P w = .ok true w := by
  have := h.u
  cases hu : P.underlying t with
  | none => simp [hu] at this
  | some d => cases d <;> simp_all [isAgg, underlying, run_program]
end types

/-! ### Memory in the small -/

/-- the one cell behind a pointer -/
def Cell (w : World) (p : Option Addr) (v : Value) : Prop := ∃ ad, p = some ad ∧ w.cell? ad = some v
/-- the cells behind a pointer -/
def Cells (w : World) (p : Option Addr) (vs : List Value) : Prop := ∃ ad, p = some ad ∧ ∀ j v, vs[j]? = some v → w.cell? (ad.add j) = some v
/-- a block of cells, none of them frozen -/
def Blk (w : World) (b : Nat) (t : TypeId) (cs : List Value) : Prop := w.heap[b]? = some (.cells cs.toArray t (0, 0))
/-- the old world with new blocks: nothing that was there has turned -/
def Keep (w w' : World) : Prop := Below w.heap.size w w'
/-- one new block -/
structure Al (w w' : World) (b : Nat) (t : TypeId) (cs : List Value) : Prop where
  b_eq : b = w.heap.size
  w_eq : w' = w.alloc (.cells cs.toArray t)
/-- one block has turned -/
structure Upd (w w' : World) (b : Nat) (t : TypeId) (cs : List Value) : Prop where
  os : w'.os = w.os
  tape : w'.tape = w.tape
  output : w'.output = w.output
  size : w'.heap.size = w.heap.size
  other : ∀ k, k ≠ b → w'.heap[k]? = w.heap[k]?
  blk : Blk w' b t cs

/-- the address of an element; of a field -/
def ea (A : Option Addr) (sz : Nat) (i : Int) : Option Addr := A.map (·.add (i.toNat * sz))
def fa (p : Option Addr) (off : Nat) : Option Addr := p.map (·.add off)

theorem Keep.refl (w : World) : Keep w w := Below.refl _ _
theorem Keep.keep {a b c : World} (h : Keep a b) (k : Keep b c) : Keep a c := Below.trans h (Below.mono k h.size)
theorem Keep.size_le {a b : World} (h : Keep a b) : a.heap.size ≤ b.heap.size := h.size
theorem Keep.drew (w : World) : Keep w w.drew := (Below.refl _ _).drew
theorem Al.kp {w w' : World} {b : Nat} {t : TypeId} {cs : List Value} (h : Al w w' b t cs) : Keep w w' := by
  rw [h.w_eq]; exact (Below.refl _ _).alloc (Nat.le_refl _) _
theorem Al.blk {w w' : World} {b : Nat} {t : TypeId} {cs : List Value} (h : Al w w' b t cs) : Blk w' b t cs := by
  rw [h.w_eq, h.b_eq]; exact heap_alloc_new w _
theorem Al.size {w w' : World} {b : Nat} {t : TypeId} {cs : List Value} (h : Al w w' b t cs) : w'.heap.size = w.heap.size + 1 := by
  rw [h.w_eq]; simp

theorem Blk.lt {w : World} {b : Nat} {t : TypeId} {cs : List Value} (h : Blk w b t cs) : b < w.heap.size := by
  rcases Nat.lt_or_ge b w.heap.size with hlt | hge
  · exact hlt
  · unfold Blk at h; rw [Array.getElem?_eq_none hge] at h; cases h
theorem Blk.keep {w w' : World} {b : Nat} {t : TypeId} {cs : List Value} (h : Blk w b t cs) (k : Keep w w') : Blk w' b t cs := (k.block b h.lt).trans h
theorem Blk.upd {w w' : World} {b g : Nat} {t t' : TypeId} {cs cs' : List Value} (h : Blk w b t cs) (k : Upd w w' g t' cs') (hne : b ≠ g) : Blk w' b t cs := (k.other b hne).trans h
theorem Blk.cell? {w : World} {b : Nat} {t : TypeId} {cs : List Value} (h : Blk w b t cs) (i : Nat) : w.cell? ⟨b, i, none⟩ = cs[i]? := by
  unfold Blk at h
  simp [World.cell?, h]
theorem Blk.frozen {w : World} {b : Nat} {t : TypeId} {cs : List Value} (h : Blk w b t cs) (i : Nat) : w.frozen? ⟨b, i, none⟩ = false := by
  unfold Blk at h
  simp [World.frozen?, h]
theorem add_mk (b o n : Nat) : (⟨b, o, none⟩ : Addr).add n = ⟨b, o + n, none⟩ := by unfold Addr.add; split <;> simp_all
theorem Blk.cell {w : World} {b : Nat} {t : TypeId} {cs : List Value} (h : Blk w b t cs) {i : Nat} {v : Value} (hv : cs[i]? = some v) : Cell w (some ⟨b, i, none⟩) v :=
  ⟨_, rfl, by rw [h.cell?]; exact hv⟩
theorem Blk.fcell {w : World} {b : Nat} {t : TypeId} {cs : List Value} (h : Blk w b t cs) {i : Nat} {v : Value} (hv : cs[i]? = some v) : Cell w (fa (some ⟨b, 0, none⟩) i) v :=
  ⟨_, rfl, by
    have := h.cell? i
    show w.cell? ((⟨b, 0, none⟩ : Addr).add i) = some v
    rw [add_mk, Nat.zero_add, this]; exact hv⟩
theorem Blk.cells {w : World} {b : Nat} {t : TypeId} {cs : List Value} (h : Blk w b t cs) : Cells w (some ⟨b, 0, none⟩) cs :=
  ⟨_, rfl, fun j v hv => by rw [add_mk, h.cell?]; simpa using hv⟩
theorem Cell.keep {w w' : World} {p : Option Addr} {v : Value} (h : Cell w p v) (k : Keep w w') : Cell w' p v := by
  obtain ⟨ad, hp, hc⟩ := h
  exact ⟨ad, hp, (Below.cell k (World.block_lt_of_cell? w ad hc)).trans hc⟩
theorem Cells.keep {w w' : World} {p : Option Addr} {vs : List Value} (h : Cells w p vs) (k : Keep w w') : Cells w' p vs := by
  obtain ⟨ad, hp, hc⟩ := h
  exact ⟨ad, hp, fun j v hv => (Below.cell k (World.block_lt_of_cell? w _ (hc j v hv))).trans (hc j v hv)⟩

def evl (e : Env) : List Operand → Option (List Value)
  | [] => some []
  | x :: r => match ev e x with
    | none => none
    | some v => match evl e r with
      | none => none
      | some vs => some (v :: vs)

theorem Sat.evl {N : Nat} {e : Env} {a : Act} (h : Sat N e a) : ∀ {xs : List Operand} {vs : List Value}, evl e xs = some vs → xs.map a.eval = vs
  | [], vs, hv => by simp only [E.evl, Option.some.injEq] at hv; simp [hv]
  | x :: r, vs, hv => by
    simp only [E.evl] at hv
    cases hx : E.ev e x with
    | none => rw [hx] at hv; cases hv
    | some v =>
      rw [hx] at hv
      simp only at hv
      cases hr : E.evl e r with
      | none => rw [hr] at hv; cases hv
      | some us =>
        rw [hr] at hv
        simp only [Option.some.injEq] at hv
        rw [← hv, List.map_cons, h.ev hx, h.evl hr]

/-- the operation yields v, and leaves the world as it is -/
def PureOp (P : Program) (N : Nat) (e : Env) (w : World) (o : Oper) (v : Value) : Prop := ∀ a, Sat N e a → (execOp a.eval o).run P w = .ok (.value v) w

section ops
variable {P : Program} {N : Nat} {ops : Array Oper} {Q : Post} {rest : List Oper} {e : Env} {w : World}
  {dst : Option Tmp} {ty : TypeId} {pos : String} {af : Array Edge} {g : Option (Nat × Bool)} {x y z : Operand}

theorem o_move {v : Value} (hx : ev e x = some v) : PureOp P N e w ⟨dst, .move x, ty, pos, af, g⟩ v := fun a ha => by simp [execOp, ha.ev hx]
theorem o_assign {v : Value} (hx : ev e x = some v) : PureOp P N e w ⟨dst, .assign x, ty, pos, af, g⟩ v := fun a ha => by simp [execOp, ha.ev hx]
theorem o_pick_t {v : Value} (hz : ev e z = some (.bool true)) (hx : ev e x = some v) : PureOp P N e w ⟨dst, .pick z x y, ty, pos, af, g⟩ v := fun a ha => by simp [execOp, ha.ev hz, ha.ev hx, asBool]
theorem o_pick_f {v : Value} (hz : ev e z = some (.bool false)) (hy : ev e y = some v) : PureOp P N e w ⟨dst, .pick z x y, ty, pos, af, g⟩ v := fun a ha => by simp [execOp, ha.ev hz, ha.ev hy, asBool]

theorem o_pick_b {a b c : Bool} (hz : ev e z = some (.bool a)) (hx : ev e x = some (.bool b)) (hy : ev e y = some (.bool c)) : PureOp P N e w ⟨dst, .pick z x y, ty, pos, af, g⟩ (.bool (bif a then b else c)) :=
  fun ac ha => by cases a <;> simp [execOp, ha.ev hz, ha.ev hx, ha.ev hy, asBool]

/-! integers -/
theorem int_beq (a b : Int) : (a == b) = decide (a = b) := by
  cases h : (a == b) with
  | true => have := eq_of_beq h; simp [this]
  | false => have := ne_of_beq_false h; simp [this]
section arith
variable {k k' : IntKind} {a b : Int} {t t' : TypeId}
theorem o_arith_w {op : BinOp} {r : Int} (hx : ev e x = some (.int k a)) (hy : ev e y = some (.int k b))
    (hop : (match op with | .add => some (a + b) | .sub => some (a - b) | .mul => some (a * b) | _ => none) = some r) :
    PureOp P N e w ⟨dst, .binOp op t x y t', ty, pos, af, g⟩ (.int k (k.wrap r)) :=
  (fun ac ha => by
    cases op <;> simp at hop <;> subst hop <;> simp [execOp, ha.ev hx, ha.ev hy, eqGuard, binOp, Op.intArith])

theorem wrap_i64 {r : Int} (h0 : -9223372036854775808 ≤ r) (h1 : r ≤ 9223372036854775807) : IntKind.i64.wrap r = r := IntWalk.i64_in _ ⟨h0, h1⟩
theorem o_add (hx : ev e x = some (.int .i64 a)) (hy : ev e y = some (.int .i64 b))
    (hr : -9223372036854775808 ≤ a + b ∧ a + b ≤ 9223372036854775807) :
    PureOp P N e w ⟨dst, .binOp .add t x y t', ty, pos, af, g⟩ (.int .i64 (a + b)) :=
  fun ac ha => by rw [o_arith_w (op := .add) (r := a + b) hx hy rfl ac ha, wrap_i64 hr.1 hr.2]
theorem o_sub (hx : ev e x = some (.int .i64 a)) (hy : ev e y = some (.int .i64 b))
    (hr : -9223372036854775808 ≤ a - b ∧ a - b ≤ 9223372036854775807) :
    PureOp P N e w ⟨dst, .binOp .sub t x y t', ty, pos, af, g⟩ (.int .i64 (a - b)) :=
  fun ac ha => by rw [o_arith_w (op := .sub) (r := a - b) hx hy rfl ac ha, wrap_i64 hr.1 hr.2]
theorem o_mul (hx : ev e x = some (.int .i64 a)) (hy : ev e y = some (.int .i64 b))
    (hr : -9223372036854775808 ≤ a * b ∧ a * b ≤ 9223372036854775807) :
    PureOp P N e w ⟨dst, .binOp .mul t x y t', ty, pos, af, g⟩ (.int .i64 (a * b)) :=
  fun ac ha => by rw [o_arith_w (op := .mul) (r := a * b) hx hy rfl ac ha, wrap_i64 hr.1 hr.2]
theorem o_quo (hx : ev e x = some (.int k a)) (hy : ev e y = some (.int k b)) (hb : b ≠ 0) :
    PureOp P N e w ⟨dst, .binOp .quo t x y t', ty, pos, af, g⟩ (.int k (k.wrap (a.tdiv b))) :=
  (fun ac ha => by simp [execOp, ha.ev hx, ha.ev hy, eqGuard, binOp, Op.intDiv, hb])

theorem o_rem (hx : ev e x = some (.int k a)) (hy : ev e y = some (.int k b)) (hb : b ≠ 0) :
    PureOp P N e w ⟨dst, .binOp .rem t x y t', ty, pos, af, g⟩ (.int k (a.tmod b)) :=
  (fun ac ha => by simp [execOp, ha.ev hx, ha.ev hy, eqGuard, binOp, Op.intDiv, hb])

theorem o_lss (hx : ev e x = some (.int k a)) (hy : ev e y = some (.int k b)) :
    PureOp P N e w ⟨dst, .binOp .lss t x y t', ty, pos, af, g⟩ (.bool (decide (a < b))) :=
  (fun ac ha => by simp [execOp, ha.ev hx, ha.ev hy, eqGuard, binOp, Op.intCmp])

theorem o_leq (hx : ev e x = some (.int k a)) (hy : ev e y = some (.int k b)) :
    PureOp P N e w ⟨dst, .binOp .leq t x y t', ty, pos, af, g⟩ (.bool (decide (a ≤ b))) :=
  (fun ac ha => by simp [execOp, ha.ev hx, ha.ev hy, eqGuard, binOp, Op.intCmp])

theorem o_gtr (hx : ev e x = some (.int k a)) (hy : ev e y = some (.int k b)) :
    PureOp P N e w ⟨dst, .binOp .gtr t x y t', ty, pos, af, g⟩ (.bool (decide (b < a))) :=
  (fun ac ha => by simp [execOp, ha.ev hx, ha.ev hy, eqGuard, binOp, Op.intCmp])

theorem o_geq (hx : ev e x = some (.int k a)) (hy : ev e y = some (.int k b)) :
    PureOp P N e w ⟨dst, .binOp .geq t x y t', ty, pos, af, g⟩ (.bool (decide (b ≤ a))) :=
  (fun ac ha => by simp [execOp, ha.ev hx, ha.ev hy, eqGuard, binOp, Op.intCmp])

theorem o_eql (hx : ev e x = some (.int k a)) (hy : ev e y = some (.int k b)) :
    PureOp P N e w ⟨dst, .binOp .eql t x y t', ty, pos, af, g⟩ (.bool (decide (a = b))) :=
  (fun ac ha => by simp [execOp, ha.ev hx, ha.ev hy, eqGuard, binOp, Op.intCmp, int_beq])

theorem o_neq (hx : ev e x = some (.int k a)) (hy : ev e y = some (.int k b)) :
    PureOp P N e w ⟨dst, .binOp .neq t x y t', ty, pos, af, g⟩ (.bool (decide (a ≠ b))) :=
  (fun ac ha => by simp [execOp, ha.ev hx, ha.ev hy, eqGuard, binOp, Op.intCmp, bne, int_beq])

theorem o_conv (ht : IntT P t' k') (hsrc : ∃ d, P.underlying t = some d) (hx : ev e x = some (.int k a)) :
    PureOp P N e w ⟨dst, .convert t t' x, ty, pos, af, g⟩ (.int k' (k'.wrap a)) :=
  (fun ac ha => by
    obtain ⟨d, hd⟩ := hsrc
    simp [execOp, ha.ev hx, convert, underlying, run_program, ht.u, hd, Conv.intToInt])

theorem o_neg (hx : ev e x = some (.int .i64 a)) (hr : -9223372036854775808 ≤ -a ∧ -a ≤ 9223372036854775807) :
    PureOp P N e w ⟨dst, .unOp .neg t x, ty, pos, af, g⟩ (.int .i64 (-a)) :=
  (fun ac ha => by
    have := wrap_i64 hr.1 hr.2
    simp [execOp, ha.ev hx, Op.unary, Op.intArith, this])

theorem o_min {ats : Array TypeId} (hx : ev e x = some (.int k a)) (hy : ev e y = some (.int k b)) :
    PureOp P N e w ⟨dst, .call ⟨.builtin .min, #[x, y], ats⟩, ty, pos, af, g⟩ (.int k (min a b)) :=
  (fun ac ha => by
    have : (if b < a then b else a) = min a b := by omega
    simp [execOp, resolve, invoke, builtin, ha.ev hx, ha.ev hy, Builtin.min_, Builtin.min2, this])

theorem o_max {ats : Array TypeId} (hx : ev e x = some (.int k a)) (hy : ev e y = some (.int k b)) :
    PureOp P N e w ⟨dst, .call ⟨.builtin .max, #[x, y], ats⟩, ty, pos, af, g⟩ (.int k (max a b)) :=
  (fun ac ha => by
    have : (if b > a then b else a) = max a b := by omega
    simp [execOp, resolve, invoke, builtin, ha.ev hx, ha.ev hy, Builtin.max_, Builtin.max2, this])
end arith

/-! truth values -/
section bools
variable {a b : Bool} {t t' : TypeId}
theorem run_equalIn_bool (ht : BoolT P t) (w : World) (d : Nat) (a b : Bool) : (Op.equalIn (d + 1) t (.bool a) (.bool b)).run P w = .ok (a == b) w := by
  simp [Op.equalIn, underlying, run_program, ht.u]
theorem o_not (hx : ev e x = some (.bool a)) :
    PureOp P N e w ⟨dst, .unOp .not t x, ty, pos, af, g⟩ (.bool (!a)) :=
  (fun ac ha => by simp [execOp, ha.ev hx, Op.unary])

theorem o_eqlb (ht : BoolT P t) (hx : ev e x = some (.bool a)) (hy : ev e y = some (.bool b)) :
    PureOp P N e w ⟨dst, .binOp .eql t x y t', ty, pos, af, g⟩ (.bool (a == b)) :=
  (fun ac ha => by
    have := run_equalIn_bool (P := P) (t := t) ht w 9999 a b
    simp only [execOp, ha.ev hx, ha.ev hy, eqGuard, binOp]
    simp [Op.equal, Op.maxDepth, this])

theorem o_neqb (ht : BoolT P t) (hx : ev e x = some (.bool a)) (hy : ev e y = some (.bool b)) :
    PureOp P N e w ⟨dst, .binOp .neq t x y t', ty, pos, af, g⟩ (.bool (!(a == b))) :=
  (fun ac ha => by
    have := run_equalIn_bool (P := P) (t := t) ht w 9999 a b
    simp only [execOp, ha.ev hx, ha.ev hy, eqGuard, binOp]
    simp [Op.equal, Op.maxDepth, this])
end bools

/-! slices, addresses, loads -/
section mem
variable {A : Option Addr} {n c : Nat} {el t t' : TypeId} {sz bytes : Nat} {zc : List Value} {i : Int} {k : IntKind} {p : Option Addr} {v : Value}
theorem o_len [ht : SliceT P t el] (hx : ev e x = some (.slice A n c)) :
    PureOp P N e w ⟨dst, .call ⟨.builtin .len, #[x], #[t]⟩, ty, pos, af, g⟩ (.int .i64 n) :=
  (fun ac ha => by simp [execOp, resolve, invoke, builtin, ha.ev hx, Builtin.len_, underlying, run_program, ht.u, goInt])

theorem o_indexAddr [ht : SliceT P t el] [he : ElemT P el sz bytes zc] (hx : ev e x = some (.slice A n c)) (hy : ev e y = some (.int k i))
    (hA : A.isSome = true) (h0 : 0 ≤ i) (hn : i < n) :
    PureOp P N e w ⟨dst, .indexAddr t x y, ty, pos, af, g⟩ (.pointer (ea A sz i)) :=
  (fun ac ha => by
    obtain ⟨ad, rfl⟩ := Option.isSome_iff_exists.1 hA
    simp [execOp, ha.ev hx, ha.ev hy, Instr.indexAt, asIntOf, underlying, run_program, ht.u, h0, hn, run_sizeOf he, ea])

theorem o_indexAddrA [ht : ArrayT P t n el] [he : ElemT P el sz bytes zc] (hx : ev e x = some (.pointer p)) (hy : ev e y = some (.int k i))
    (hA : p.isSome = true) (h0 : 0 ≤ i) (hn : i < n) :
    PureOp P N e w ⟨dst, .indexAddr t x y, ty, pos, af, g⟩ (.pointer (ea p sz i)) :=
  (fun ac ha => by
    obtain ⟨ad, rfl⟩ := Option.isSome_iff_exists.1 hA
    simp [execOp, ha.ev hx, ha.ev hy, Instr.indexAt, Instr.sureAddr, asIntOf, underlying, run_program, ht.u, h0, hn, run_sizeOf he, ea])

theorem o_load [ht : ScalarT P t] (hx : ev e x = some (.pointer p)) (hc : Cell w p v) :
    PureOp P N e w ⟨dst, .load t x, ty, pos, af, g⟩ v :=
  (fun ac ha => by
    obtain ⟨ad, rfl, hv⟩ := hc
    simp [execOp, ha.ev hx, Instr.loadAt, Instr.sureAddr, loadVar, run_isAgg_f ht, hv])

theorem o_loadS [ht : AggT P t] [he : ElemT P t sz bytes zc] {vs : List Value} (hx : ev e x = some (.pointer p)) (hc : Cells w p vs) (hl : vs.length = sz) :
    PureOp P N e w ⟨dst, .load t x, ty, pos, af, g⟩ (.agg vs.toArray) :=
  (fun ac ha => by
    obtain ⟨ad, rfl, hv⟩ := hc
    subst hl
    have := run_loadCells_list (P := P) w ad vs hv
    simp [execOp, ha.ev hx, Instr.loadAt, Instr.sureAddr, loadVar, run_isAgg_t ht, run_sizeOf he, this])

theorem FieldT.get {s f ft off sz : Nat} {agg : Bool} (h : FieldT P s f ft off sz agg) : ∃ (fs : Array Field) (fd : Field), P.underlying s = some (.struct fs) ∧ fs[f]? = some fd ∧ fd.type = ft ∧ fd.offset = off ∧ sz ≠ 0 ∧
    (∀ w, (sizeOf ft).run P w = .ok sz w) ∧ (∀ w, (isAgg ft).run P w = .ok agg w) := by
  have := h.u
  cases hu : P.underlying s with
  | none => simp [hu] at this
  | some d =>
    cases d with
    | struct fs =>
      simp only [hu] at this
      cases hf : fs[f]? with
      | none => simp [hf] at this
      | some fd =>
        simp only [hf, Bool.and_eq_true, decide_eq_true_eq, beq_iff_eq] at this
        obtain ⟨⟨⟨h1, h2, h3⟩, h4⟩, h5⟩ := this
        refine ⟨fs, fd, rfl, hf, h1, h2, h3, fun w => ?_, fun w => ?_⟩
        · cases hi : P.info? ft with
          | none => simp [hi] at h4
          | some i => simp [hi] at h4; simp [sizeOf, typeInfo, run_program, hi, h4]
        · cases hi : P.underlying ft with
          | none => simp [hi] at h5
          | some d => cases d <;> simp [hi] at h5 <;> subst h5 <;> simp [isAgg, underlying, run_program, hi]
    | _ => simp [hu] at this

theorem o_fieldAddr {s f ft off : Nat} {agg : Bool} [ht : FieldT P s f ft off sz agg] (hx : ev e x = some (.pointer p)) (hp : p.isSome = true) :
    PureOp P N e w ⟨dst, .fieldAddr s x f, ty, pos, af, g⟩ (.pointer (fa p off)) :=
  (fun ac ha => by
    obtain ⟨ad, rfl⟩ := Option.isSome_iff_exists.1 hp
    obtain ⟨fs, fd, h1, h2, h3, h4, h5, h6, h7⟩ := ht.get
    subst h3; subst h4
    simp [execOp, ha.ev hx, Instr.fieldAt, Instr.sureAddr, underlying, run_program, h1, h2, fieldPlace, h6, h5, fa])

theorem o_field {s f ft off : Nat} [ht : FieldT P s f ft off sz false] {vs : List Value} (hx : ev e x = some (.agg vs.toArray)) (hv : vs[off]? = some v) :
    PureOp P N e w ⟨dst, .field s x f, ty, pos, af, g⟩ v :=
  (fun ac ha => by
    obtain ⟨fs, fd, h1, h2, h3, h4, h5, h6, h7⟩ := ht.get
    subst h3; subst h4
    simp [execOp, ha.ev hx, Instr.field, asAgg, underlying, run_program, h1, h2, part, h7, hv])

theorem o_fieldS {s f ft off : Nat} [ht : FieldT P s f ft off sz true] {vs us : List Value} (hx : ev e x = some (.agg vs.toArray)) (hv : (vs.drop off).take sz = us) :
    PureOp P N e w ⟨dst, .field s x f, ty, pos, af, g⟩ (.agg us.toArray) :=
  (fun ac ha => by
    obtain ⟨fs, fd, h1, h2, h3, h4, h5, h6, h7⟩ := ht.get
    subst h3; subst h4; subst hv
    simp [execOp, ha.ev hx, Instr.field, asAgg, underlying, run_program, h1, h2, part, h7, h6, List.extract_eq_take_drop])

theorem o_extract {vs : List Value} {ix : Nat} (hx : ev e x = some (.tuple vs.toArray)) (hv : vs[ix]? = some v) :
    PureOp P N e w ⟨dst, .extract x ix, ty, pos, af, g⟩ v :=
  (fun ac ha => by simp [execOp, ha.ev hx, Instr.extract, hv])

theorem o_nilCheck (hx : ev e x = some (.pointer p)) (hp : p.isSome = true) :
    PureOp P N e w ⟨dst, .nilCheck x, ty, pos, af, g⟩ (.pointer p) :=
  (fun ac ha => by
    obtain ⟨ad, rfl⟩ := Option.isSome_iff_exists.1 hp
    simp [execOp, ha.ev hx])

theorem WL_pure {d : Tmp} {op : Op} {v : Value} (hg : gd ops e g = some true) (hd : Nat.blt d N = true) (h : PureOp P N e w ⟨some d, op, ty, pos, af, g⟩ v) (k : WL P N ops Q rest ((d, v) :: e) w) :
    WL P N ops Q (⟨some d, op, ty, pos, af, g⟩ :: rest) e w :=
  WL_val (o := ⟨some d, op, ty, pos, af, g⟩) hg hd h k
theorem WL_ex {d : Tmp} {op : Op} (hg : gd ops e g = some true) (hd : Nat.blt d N = true) (h : ∃ v, PureOp P N e w ⟨some d, op, ty, pos, af, g⟩ v ∧ WL P N ops Q rest ((d, v) :: e) w) :
    WL P N ops Q (⟨some d, op, ty, pos, af, g⟩ :: rest) e w := let ⟨_, h1, h2⟩ := h; WL_pure hg hd h1 h2
theorem WL_pass' {d : Tmp} {op : Op} (hg : gd ops e g = some false) (hd : Nat.blt d N = true) (k : WL P N ops Q rest ((d, undef) :: e) w) :
    WL P N ops Q (⟨some d, op, ty, pos, af, g⟩ :: rest) e w :=
  WL_pass (o := ⟨some d, op, ty, pos, af, g⟩) hg hd k
theorem WL_end {K : Env → World → Prop} (h : K e w) : WL P N ops (thenE K Q) [] e w := WL_nil h

theorem run_newObj (o : Obj) (w : World) : (newObj o).run P w = .ok w.heap.size (w.alloc o) := rfl

/-! new blocks -/
theorem o_alloc [he : ElemT P t sz bytes zc] (hg : gd ops e g = some true) {d : Tmp} (hd : Nat.blt d N = true)
    (kk : ∀ b w', Al w w' b t zc → WL P N ops Q rest ((d, .pointer (some ⟨b, 0, none⟩)) :: e) w') : WL P N ops Q (⟨some d, .alloc t, ty, pos, af, g⟩ :: rest) e w :=
  WL_val (w' := w.alloc (.cells zc.toArray t)) hg hd (fun ac ha => by
    obtain ⟨v, hv, hc⟩ := run_zero (P := P) he w
    simp [execOp, Instr.alloc, hv, newVar, newRow, run_newObj, hc]) (kk _ _ ⟨rfl, rfl⟩)
theorem o_box (hg : gd ops e g = some true) {d : Tmp} (hd : Nat.blt d N = true) (hx : ev e x = some v)
    (kk : ∀ b w', Al w w' b t v.cells.toList → WL P N ops Q rest ((d, .pointer (some ⟨b, 0, none⟩)) :: e) w') : WL P N ops Q (⟨some d, .box t x, ty, pos, af, g⟩ :: rest) e w :=
  WL_val (w' := w.alloc (.cells v.cells t)) hg hd (fun ac ha => by
    simp [execOp, ha.ev hx, Instr.box, newVar, newRow, run_newObj]) (kk _ _ ⟨rfl, by simp⟩)
end mem

/-! calls -/
section calls
theorem o_call {f : FuncId} {xs : List Operand} {ats : Array TypeId} {vs : List Value} {R : Value → World → Prop} (hg : gd ops e g = some true) {d : Tmp} (hd : Nat.blt d N = true)
    (hx : evl e xs = some vs) (hf : Run P f vs w R)
    (kk : ∀ v w', R v w' → WL P N ops Q rest ((d, v) :: e) w') : WL P N ops Q (⟨some d, .call ⟨.value (.func f), xs.toArray, ats⟩, ty, pos, af, g⟩ :: rest) e w :=
  WL_do hg fun a ha => by
    have hxs := ha.evl hx
    unfold Oper.wp
    have hr : (execOp a.eval (⟨some d, .call ⟨.value (.func f), xs.toArray, ats⟩, ty, pos, af, g⟩ : Oper)).run P w = .ok (.enter f vs.toArray) w := by
      simp only [execOp, resolve, Act.eval, Deferred.ofValue, invoke, Sem.run_bind, Sem.run_pure, Result.andThen_ok]
      rw [show (xs.toArray.map a.eval) = vs.toArray by simp [hxs]]
      simpa using run_callFunc_ok hf.ok vs.toArray w
    rw [hr]
    refine Calls.mono hf.calls fun en w' h => ?_
    obtain ⟨v, rfl, hR⟩ := h
    exact kk v w' hR _ (ha.put (dst := some d) hd v)
theorem o_callv {f : FuncId} {xs : List Operand} {ats : Array TypeId} {vs : List Value} {fi ca : List Value} {R : Value → World → Prop} (hg : gd ops e g = some true) {d : Tmp} (hd : Nat.blt d N = true)
    (hz : ev e z = some (.func (.func f) fi.toArray ca.toArray)) (hx : evl e xs = some vs) (hf : Run P f (fi ++ vs ++ ca) w R)
    (kk : ∀ v w', R v w' → WL P N ops Q rest ((d, v) :: e) w') : WL P N ops Q (⟨some d, .call ⟨.value z, xs.toArray, ats⟩, ty, pos, af, g⟩ :: rest) e w :=
  WL_do hg fun a ha => by
    have hxs := ha.evl hx
    unfold Oper.wp
    have hr : (execOp a.eval (⟨some d, .call ⟨.value z, xs.toArray, ats⟩, ty, pos, af, g⟩ : Oper)).run P w = .ok (.enter f (fi ++ vs ++ ca).toArray) w := by
      simp only [execOp, resolve, ha.ev hz, Deferred.ofValue, invoke, Sem.run_bind, Sem.run_pure, Result.andThen_ok]
      rw [show (xs.toArray.map a.eval) = vs.toArray by simp [hxs]]
      simpa using run_callFunc_ok hf.ok (fi ++ vs ++ ca).toArray w
    rw [hr]
    refine Calls.mono hf.calls fun en w' h => ?_
    obtain ⟨v, rfl, hR⟩ := h
    exact kk v w' hR _ (ha.put (dst := some d) hd v)
theorem o_makeFunc {fn : Go.Fn} {fs cs : List Operand} {fi ca : List Value} (hx : evl e fs = some fi) (hy : evl e cs = some ca) :
    PureOp P N e w ⟨dst, .makeFunc fn fs.toArray cs.toArray, ty, pos, af, g⟩ (.func fn fi.toArray ca.toArray) :=
  fun a ha => by
    have h1 := ha.evl hx
    have h2 := ha.evl hy
    simp [execOp, Instr.makeFunc, ← h1, ← h2]
end calls
end ops

/-! ### Regions that draw their order -/

/-- the lexical walk of a region whose operations are quiet in a class of worlds -/
def WQ (P : Program) (N : Nat) (ops : Array Oper) (C : World → Prop) (K : Env → Prop) (l : List Oper) (e : Env) : Prop :=
  ∀ a, Sat N e a → wpQuiet P ops C (fun a' => ∃ e', Sat N e' a' ∧ K e') l a

section quiet
variable {P : Program} {N : Nat} {ops : Array Oper} {C : World → Prop} {K : Env → Prop} {rest : List Oper} {e : Env}
  {ty : TypeId} {pos : String} {af : Array Edge} {g : Option (Nat × Bool)} {d : Tmp} {op : Op}
theorem W_quiet {Q : Post} {w : World} {id : Nat} {l : List Oper} (C : World → Prop) (hm : P.follows .mixedOrders = true) (hB : Region.lexB .any l.toArray = true) (hC : C w.drew)
    (h : WQ P N l.toArray C (fun e' => ∀ w', C w' → Q .normal e' w') l e) : W P N (.region id l.toArray true) Q e w := by
  intro a ha
  refine wp_region_quiet (C := C) hm hB hC ?_
  have := h a ha
  have hmono : ∀ (l' : List Oper) (a : Act), wpQuiet P l.toArray C (fun a' => ∃ e', Sat N e' a' ∧ ∀ w', C w' → Q .normal e' w') l' a → wpQuiet P l.toArray C (fun a' => ∀ w', C w' → up N Q .normal a' w') l' a := by
    intro l'
    induction l' with
    | nil => intro a h; obtain ⟨e', hs, hq⟩ := h; exact fun w' hw' => ⟨e', hs, hq w' hw'⟩
    | cons o r ih =>
      intro a h
      unfold wpQuiet at h ⊢
      split
      · rename_i hw; rw [if_pos hw] at h; exact Oper.quiet_mono ih h
      · rename_i hw; rw [if_neg hw] at h; exact ih _ h
  exact hmono _ _ (by simpa using this)
theorem WQ_nil (h : K e) : WQ P N ops C K [] e := fun _ ha => wpQuiet_nil ⟨e, ha, h⟩
theorem WQ_pure {v : Value} (hg : gd ops e g = some true) (hd : Nat.blt d N = true) (h : ∀ w', C w' → PureOp P N e w' ⟨some d, op, ty, pos, af, g⟩ v) (k : WQ P N ops C K rest ((d, v) :: e)) :
    WQ P N ops C K (⟨some d, op, ty, pos, af, g⟩ :: rest) e := by
  intro a ha
  unfold wpQuiet
  rw [if_pos (ha.wanted hg)]
  refine ⟨v, fun w' hw' => ?_, k _ (ha.put (dst := some d) hd v)⟩
  unfold Oper.quietAt
  rw [h w' hw' a ha]
  exact ⟨rfl, rfl⟩
theorem WQ_ex (hg : gd ops e g = some true) (hd : Nat.blt d N = true) (h : ∃ v, (∀ w', C w' → PureOp P N e w' ⟨some d, op, ty, pos, af, g⟩ v) ∧ WQ P N ops C K rest ((d, v) :: e)) :
    WQ P N ops C K (⟨some d, op, ty, pos, af, g⟩ :: rest) e := let ⟨_, h1, h2⟩ := h; WQ_pure hg hd h1 h2
theorem WQ_pass (hg : gd ops e g = some false) (hd : Nat.blt d N = true) (k : WQ P N ops C K rest ((d, undef) :: e)) :
    WQ P N ops C K (⟨some d, op, ty, pos, af, g⟩ :: rest) e := by
  intro a ha
  unfold wpQuiet
  rw [if_neg (by rw [ha.wanted hg]; simp)]
  exact k _ (ha.put (dst := some d) hd _)
theorem WQ_part {d : Option Tmp} {j : Nat} {want : Bool} {t : Nat} {b : Bool} (ht : (ops[j]?).bind (·.dst) = some t) (hv : find e t = some (.bool b))
    (h1 : b = true → WQ P N ops C K (⟨d, op, ty, pos, af, some (j, want)⟩ :: rest) ((t, .bool true) :: e)) (h0 : b = false → WQ P N ops C K (⟨d, op, ty, pos, af, some (j, want)⟩ :: rest) ((t, .bool false) :: e)) :
    WQ P N ops C K (⟨d, op, ty, pos, af, some (j, want)⟩ :: rest) e := by
  have key : ∀ b', b = b' → Has ((t, .bool b') :: []) e := fun b' hb => ⟨by rw [hv, hb], trivial⟩
  have sub : ∀ b', b = b' → ∀ a, Sat N e a → Sat N ((t, .bool b') :: e) a := fun b' hb a ha => ⟨ha.defers, ha.size, fun t' v' h' => by
    simp only [find] at h'
    rcases Bool.eq_false_or_eq_true (Nat.beq t t') with ht' | hf
    · rw [ht'] at h'
      have := Nat.eq_of_beq_eq_true ht'
      subst this
      have h2 : Value.bool b' = v' := by simpa using h'
      subst h2; subst hb
      exact ha.val _ _ hv
    · rw [hf] at h'; exact ha.val _ _ (by simpa using h')⟩
  intro a ha
  cases b with
  | true => exact h1 rfl a (sub true rfl a ha)
  | false => exact h0 rfl a (sub false rfl a ha)
theorem WQ_call {f : FuncId} {xs : List Operand} {ats : Array TypeId} {vs : List Value} {v : Value} (hg : gd ops e g = some true) (hd : Nat.blt d N = true)
    (hx : evl e xs = some vs) (hf : ∀ w', C w' → Run P f vs w' (fun r w'' => r = v ∧ C w''))
    (k : WQ P N ops C K rest ((d, v) :: e)) : WQ P N ops C K (⟨some d, .call ⟨.value (.func f), xs.toArray, ats⟩, ty, pos, af, g⟩ :: rest) e := by
  intro a ha
  unfold wpQuiet
  rw [if_pos (ha.wanted hg)]
  refine ⟨v, fun w' hw' => ?_, k _ (ha.put (dst := some d) hd v)⟩
  unfold Oper.quietAt
  have hxs := ha.evl hx
  have hr : (execOp a.eval (⟨some d, .call ⟨.value (.func f), xs.toArray, ats⟩, ty, pos, af, g⟩ : Oper)).run P w' = .ok (.enter f vs.toArray) w' := by
    simp only [execOp, resolve, Act.eval, Deferred.ofValue, invoke, Sem.run_bind, Sem.run_pure, Result.andThen_ok]
    rw [show (xs.toArray.map a.eval) = vs.toArray by simp [hxs]]
    simpa using run_callFunc_ok (hf w' hw').ok vs.toArray w'
  rw [hr]
  refine ⟨rfl, (hf w' hw').calls.mono fun en w'' h => ?_⟩
  obtain ⟨u, rfl, rfl, hR⟩ := h
  exact ⟨rfl, hR⟩
theorem WQ_callv {z : Operand} {f : FuncId} {xs : List Operand} {ats : Array TypeId} {vs fi ca : List Value} {v : Value} (hg : gd ops e g = some true) (hd : Nat.blt d N = true)
    (hz : ev e z = some (.func (.func f) fi.toArray ca.toArray)) (hx : evl e xs = some vs) (hf : ∀ w', C w' → Run P f (fi ++ vs ++ ca) w' (fun r w'' => r = v ∧ C w''))
    (k : WQ P N ops C K rest ((d, v) :: e)) : WQ P N ops C K (⟨some d, .call ⟨.value z, xs.toArray, ats⟩, ty, pos, af, g⟩ :: rest) e := by
  intro a ha
  unfold wpQuiet
  rw [if_pos (ha.wanted hg)]
  refine ⟨v, fun w' hw' => ?_, k _ (ha.put (dst := some d) hd v)⟩
  unfold Oper.quietAt
  have hxs := ha.evl hx
  have hr : (execOp a.eval (⟨some d, .call ⟨.value z, xs.toArray, ats⟩, ty, pos, af, g⟩ : Oper)).run P w' = .ok (.enter f (fi ++ vs ++ ca).toArray) w' := by
    simp only [execOp, resolve, ha.ev hz, Deferred.ofValue, invoke, Sem.run_bind, Sem.run_pure, Result.andThen_ok]
    rw [show (xs.toArray.map a.eval) = vs.toArray by simp [hxs]]
    simpa using run_callFunc_ok (hf w' hw').ok (fi ++ vs ++ ca).toArray w'
  rw [hr]
  refine ⟨rfl, (hf w' hw').calls.mono fun en w'' h => ?_⟩
  obtain ⟨u, rfl, rfl, hR⟩ := h
  exact ⟨rfl, hR⟩
end quiet

/-! a region that draws, operation by operation, in an order of our choosing for what only reads -/

def WD (P : Program) (N : Nat) (ops : Array Oper) (S : World → Prop) (Q : Post) (fuel : Nat) (listed : Array Bool) (e : Env) (w : World) : Prop :=
  ∀ a, Sat N e a → wpAnyH P .any ops (up N Q) S fuel listed a w

def NoPanics (Q : Post) : Prop := ∀ c e w, ¬ Q (.panic c) e w

theorem np_then {K : Env → World → Prop} {Q : Post} (h : NoPanics Q) : NoPanics (thenE K Q) := fun c e w hq => h c e w hq
theorem np_in {id : Nat} {Q : Post} (h : NoPanics Q) : NoPanics (inE id Q) := fun c e w hq => h c e w hq
theorem np_ret {P : Program} {N : Nat} {fn : Func} {R : Value → World → Prop} : NoPanics (retQ P N fn R) := fun _ _ _ hq => hq
section draws
variable {P : Program} {N : Nat} {ops : Array Oper} {S : World → Prop} {Q : Post} {fuel : Nat} {listed : Array Bool} {e : Env} {w : World}
theorem W_draw {id : Nat} {l : List Oper} (S : World → Prop) (hm : P.follows .mixedOrders = true)
    (h : WD P N l.toArray S Q l.length (Array.replicate l.length false) e w.drew) : W P N (.region id l.toArray true) Q e w :=
  fun a ha => wp_region_held (S := S) hm (by have := h a ha; simpa using this)
theorem WD_done (hr : Region.ready .any ops listed = []) (h : Q .normal e w) : WD P N ops S Q fuel listed e w :=
  fun _ ha => wpAnyH_done hr ⟨e, ha, h⟩ fuel
theorem WD_take (i : Nat) {d : Tmp} {op : Op} {ty : TypeId} {pos : String} {af : Array Edge} {g : Option (Nat × Bool)} {v : Value} (hi : ops[i]? = some ⟨some d, op, ty, pos, af, g⟩)
    (hs : Region.noSelect ops = true) (hf : Region.free .any ops listed i = true) (hr : (Region.ready .any ops listed).contains i = true) (hQ : NoPanics Q)
    (hg : gd ops e g = some true) (hd : Nat.blt d N = true) (h : ∀ w', S w' → PureOp P N e w' ⟨some d, op, ty, pos, af, g⟩ v) (hS : S w)
    (k : WD P N ops S Q fuel (listed.setIfInBounds i true) ((d, v) :: e) w) : WD P N ops S Q (fuel + 1) listed e w := by
  intro a ha
  refine wpAnyH_take (oi := ⟨some d, op, ty, pos, af, g⟩) (v := v) hi hs hf hr (fun c a w ⟨e', _, hq⟩ => (hQ c e' w hq).elim) (.inl ⟨ha.wanted hg, fun w' hw' => h w' hw' a ha⟩) hS ?_
  exact k _ (ha.put (dst := some d) hd v)
theorem WD_ex (i : Nat) {d : Tmp} {op : Op} {ty : TypeId} {pos : String} {af : Array Edge} {g : Option (Nat × Bool)} (hi : ops[i]? = some ⟨some d, op, ty, pos, af, g⟩)
    (hs : Region.noSelect ops = true) (hf : Region.free .any ops listed i = true) (hr : (Region.ready .any ops listed).contains i = true) (hQ : NoPanics Q)
    (hg : gd ops e g = some true) (hd : Nat.blt d N = true) (hS : S w) (h : ∃ v, (∀ w', S w' → PureOp P N e w' ⟨some d, op, ty, pos, af, g⟩ v) ∧ WD P N ops S Q fuel (listed.setIfInBounds i true) ((d, v) :: e) w) : WD P N ops S Q (fuel + 1) listed e w :=
  let ⟨_, h1, h2⟩ := h; WD_take i hi hs hf hr hQ hg hd h1 hS h2
theorem WD_pass (i : Nat) {d : Tmp} {op : Op} {ty : TypeId} {pos : String} {af : Array Edge} {g : Option (Nat × Bool)} (hi : ops[i]? = some ⟨some d, op, ty, pos, af, g⟩)
    (hs : Region.noSelect ops = true) (hf : Region.free .any ops listed i = true) (hr : (Region.ready .any ops listed).contains i = true) (hQ : NoPanics Q)
    (hg : gd ops e g = some false) (hd : Nat.blt d N = true) (hS : S w)
    (k : WD P N ops S Q fuel (listed.setIfInBounds i true) ((d, undef) :: e) w) : WD P N ops S Q (fuel + 1) listed e w := by
  intro a ha
  refine wpAnyH_take (oi := ⟨some d, op, ty, pos, af, g⟩) (v := undef) hi hs hf hr (fun c a w ⟨e', _, hq⟩ => (hQ c e' w hq).elim) (.inr ⟨ha.wanted hg, rfl⟩) hS ?_
  exact k _ (ha.put (dst := some d) hd _)
/-- whichever operation comes next: each of them as the first of a list of one -/
theorem WD_all {rs : List Nat} (hr : Region.ready .any ops listed = rs) (hne : rs ≠ [])
    (h : ∀ i ∈ rs, ∃ o, ops[i]? = some o ∧ WL P N ops (thenE (fun e' w' => S w' ∧ WD P N ops S Q fuel (listed.setIfInBounds i true) e' w') Q) [o] e w) : WD P N ops S Q (fuel + 1) listed e w := by
  intro a ha
  refine wpAnyH_all hr hne fun i hi => ?_
  obtain ⟨o, ho, hw⟩ := h i hi
  have h1 := hw a ha
  unfold wpOp
  simp only [ho]
  unfold wpList at h1
  have mono : ∀ (a' : Act) (w' : World), wpList P ops (up N (thenE (fun e' w' => S w' ∧ WD P N ops S Q fuel (listed.setIfInBounds i true) e' w') Q)) [] a' w' → S w' ∧ wpAnyH P .any ops (up N Q) S fuel (listed.setIfInBounds i true) a' w' := by
    rintro a' w' ⟨e', hs, hS, hq⟩
    exact ⟨hS, hq a' hs⟩
  have monoQ : ∀ (x : Exit) (a' : Act) (w' : World), x ≠ .normal → up N (thenE (fun e' w' => S w' ∧ WD P N ops S Q fuel (listed.setIfInBounds i true) e' w') Q) x a' w' → up N Q x a' w' := by
    rintro x a' w' hx ⟨e', hs, hq⟩
    cases x <;> first | exact absurd rfl hx | exact ⟨e', hs, hq⟩
  split
  · rename_i hw'
    rw [if_pos hw'] at h1
    rcases h1 with h1 | ⟨h1, a0, w0, h2⟩
    · left
      unfold Oper.wp at h1 ⊢
      generalize (execOp a.eval o).run P w = r at h1 ⊢
      cases r with
      | ok n w1 =>
        cases n <;> simp only [Oper.upon] at h1 ⊢
        case value u => exact mono _ _ h1
        case skip => exact mono _ _ h1
        case defer dd => exact mono _ _ h1
        case enter f args =>
          refine Calls.mono h1 fun en w'' he => ?_
          cases en with
          | returned u => exact mono _ _ he
          | panicked c => exact monoQ _ _ _ (by simp) he
          | outgrown => obtain ⟨a1, w1, h3⟩ := he; exact ⟨a1, w1, monoQ _ _ _ (by simp) h3⟩
        case row row args => exact Rows.mono h1 fun u w'' he => mono _ _ he
      | halt x w1 =>
        cases x <;> simp only [Oper.upon] at h1 ⊢
        case panic u => exact monoQ _ _ _ (by simp) h1
    · exact .inr ⟨h1, a0, w0, monoQ _ _ _ (by simp) h2⟩
  · rename_i hw'
    rw [if_neg hw'] at h1
    exact mono _ _ h1
theorem WD_one (i : Nat) {o : Oper} (hr : Region.ready .any ops listed = [i]) (ho : ops[i]? = some o)
    (h : WL P N ops (thenE (fun e' w' => S w' ∧ WD P N ops S Q fuel (listed.setIfInBounds i true) e' w') Q) [o] e w) : WD P N ops S Q (fuel + 1) listed e w :=
  WD_all hr (by simp) fun j hj => by
    have : j = i := by simpa using hj
    subst this
    exact ⟨o, ho, h⟩
/-- two operations may come next -/
theorem WD_two (i j : Nat) {o o' : Oper} (hr : Region.ready .any ops listed = [i, j]) (ho : ops[i]? = some o) (ho' : ops[j]? = some o')
    (h : WL P N ops (thenE (fun e' w' => S w' ∧ WD P N ops S Q fuel (listed.setIfInBounds i true) e' w') Q) [o] e w)
    (h' : WL P N ops (thenE (fun e' w' => S w' ∧ WD P N ops S Q fuel (listed.setIfInBounds j true) e' w') Q) [o'] e w) : WD P N ops S Q (fuel + 1) listed e w :=
  WD_all hr (by simp) fun k hk => by
    simp only [List.mem_cons, List.not_mem_nil, or_false] at hk
    rcases hk with rfl | rfl
    · exact ⟨o, ho, h⟩
    · exact ⟨o', ho', h'⟩
end draws

/-! regions whose effects come last: what is read ahead of them may be read in any order -/
def waits (ops : Array Oper) : Nat → Nat → Nat → Bool
  | 0, _, _ => false
  | f + 1, j, i => match ops[j]? with
    | none => false
    | some o => o.after.any fun e => Region.binds .any e && (e.on == i || waits ops f e.on i)
def Shut (ops : Array Oper) (listed : Array Bool) : Prop := ∀ j o, ops[j]? = some o → listed.getD j false = true → ∀ e ∈ o.after, Region.binds .any e = true → listed.getD e.on false = true
def late (lasts : List Nat) (listed : Array Bool) : Bool := lasts.any fun j => listed.getD j false
section late
variable {P : Program} {ops : Array Oper} {listed : Array Bool} {lasts : List Nat} {S : World → Prop}
theorem waits_listed (hs : Shut ops listed) : ∀ (f j i : Nat), listed.getD j false = true → waits ops f j i = true → listed.getD i false = true
  | 0, _, _, _, h => by simp [waits] at h
  | f + 1, j, i, hj, h => by
    simp only [waits] at h
    cases ho : ops[j]? with
    | none => simp [ho] at h
    | some o =>
      simp only [ho] at h
      obtain ⟨e, he, hb⟩ := Array.any_eq_true'.1 h
      simp only [Bool.and_eq_true, Bool.or_eq_true, beq_iff_eq] at hb
      have hl := hs j o ho hj e he hb.1
      rcases hb.2 with h2 | h2
      · rw [← h2]; exact hl
      · exact waits_listed hs f e.on i hl h2
theorem waits_ready (hs : Shut ops listed) {f j i : Nat} (hj : j ∈ Region.ready .any ops listed) (h : waits ops f j i = true) : listed.getD i false = true := by
  cases f with
  | zero => simp [waits] at h
  | succ f =>
    obtain ⟨_, o, ho, hall⟩ := mem_ready.1 hj
    simp only [waits, ho] at h
    obtain ⟨e, he, hb⟩ := Array.any_eq_true'.1 h
    simp only [Bool.and_eq_true, Bool.or_eq_true, beq_iff_eq] at hb
    have hl := hall e he hb.1
    rcases hb.2 with h2 | h2
    · rw [← h2]; exact hl
    · exact waits_listed hs f e.on i hl h2
theorem Shut.add (hs : Shut ops listed) {i : Nat} (hi : i ∈ Region.ready .any ops listed) : Shut ops (listed.setIfInBounds i true) := by
  intro j o ho hj e he hb
  by_cases hji : i = j
  · subst hji
    obtain ⟨_, o', ho', hall⟩ := mem_ready.1 hi
    rw [ho] at ho'
    simp only [Option.some.injEq] at ho'
    subst ho'
    exact getD_set_true (hall e he hb)
  · rw [getD_set_ne false hji] at hj
    exact getD_set_true (hs j o ho hj e he hb)
theorem ready_out {i : Nat} (hi : i ∈ Region.ready .any ops listed) : listed.getD i false = false := by
  have h0 := (mem_ready.1 hi).1
  rcases Nat.lt_or_ge i listed.size with h' | h'
  · simp [h'] at h0 ⊢; exact h0
  · simp [Array.getElem?_eq_none h']
theorem late_add {i : Nat} (hil : lasts.contains i = false) : late lasts (listed.setIfInBounds i true) = late lasts listed := by
  unfold late
  rw [Bool.eq_iff_iff, List.any_eq_true, List.any_eq_true]
  constructor <;> rintro ⟨j, hj, h⟩ <;> refine ⟨j, hj, ?_⟩ <;> have hne : i ≠ j := fun e => by { subst e; simp at hil; exact hil hj }
  · rwa [getD_set_ne false hne] at h
  · rw [getD_set_ne false hne]; exact h
theorem late_mono {i : Nat} (h : late lasts (listed.setIfInBounds i true) = false) : late lasts listed = false := by
  unfold late at h ⊢
  rw [List.any_eq_false] at h ⊢
  intro j hj hc
  exact h j hj (getD_set_true hc)
theorem late_no (hs : Shut ops listed) {f i : Nat} (hi : i ∈ Region.ready .any ops listed) (hw : lasts.all (fun j => waits ops f j i) = true) : late lasts listed = false := by
  unfold late
  rw [List.any_eq_false]
  intro j hj hc
  have := waits_listed hs f j i hc (List.all_eq_true.1 hw j hj)
  rw [ready_out hi] at this; cases this

def wpAnyL (P : Program) (ops : Array Oper) (Q : Exit → Act → World → Prop) (S : World → Prop) (lasts : List Nat) : Nat → Array Bool → Act → World → Prop
  | 0, listed, a, w => Region.ready .any ops listed = [] ∧ Q .normal a w
  | fuel + 1, listed, a, w =>
    (Region.ready .any ops listed = [] → Q .normal a w) ∧
    ∀ i ∈ Region.ready .any ops listed, wpOp P ops Q i (fun a' w' => (late lasts (listed.setIfInBounds i true) = false → S w') ∧ wpAnyL P ops Q S lasts fuel (listed.setIfInBounds i true) a' w') a w
theorem wpAny_of_late {Q : Exit → Act → World → Prop} : ∀ (fuel : Nat) (listed : Array Bool) (a : Act) (w : World), wpAnyL P ops Q S lasts fuel listed a w → wpAny P .any ops Q fuel listed a w
  | 0, _, _, _, h => h
  | fuel + 1, _, _, _, h => ⟨h.1, fun i hi => wpOp_mono (fun a' w' h' => wpAny_of_late fuel _ a' w' h'.2) (h.2 i hi)⟩
theorem wpAnyL_first {Q : Exit → Act → World → Prop} {T : World → Prop} {i f : Nat} {oi : Oper} {v : Value} (hi : ops[i]? = some oi) (hsel : ∀ (j : Nat) (o : Oper) cs b, ops[j]? = some o → o.op ≠ .select cs b)
    (hQ : ∀ c a w, Q (.panic c) (a.put oi.dst v) w → Q (.panic c) a w) (hil : lasts.contains i = false) (hT : (∀ w, T w) ∨ (T = S ∧ lasts.all (fun j => waits ops f j i) = true)) :
    ∀ (fuel : Nat) (listed : Array Bool) (a : Act) (w : World),
      (∀ j oj, ops[j]? = some oj → j ≠ i → listed.getD j true = false → (∀ e ∈ oj.after, Region.binds .any e = true → e.on ≠ i) → oi.apart ops oj = true) →
      i ∈ Region.ready .any ops listed → YieldsIf P ops T oi v a → Shut ops listed → (late lasts listed = false → S w) →
      wpAnyL P ops Q S lasts fuel (listed.setIfInBounds i true) (a.put oi.dst v) w → wpAnyL P ops Q S lasts (fuel + 1) listed a w := by
  intro fuel
  have getT : ∀ (listed : Array Bool) (w : World), i ∈ Region.ready .any ops listed → Shut ops listed → (late lasts listed = false → S w) → T w := by
    intro listed w hr hs hS
    rcases hT with h | ⟨rfl, hw⟩
    · exact h w
    · exact hS (late_no hs hr hw)
  induction fuel with
  | zero =>
    intro listed a w _ hr hy hs hS H
    refine ⟨fun h => (by rw [h] at hr; cases hr), fun j hj => ?_⟩
    by_cases hji : j = i
    · subst hji; exact hy.wpOp hi (getT listed w hr hs hS) ⟨fun h => hS (late_mono h), H⟩
    · have := ready_mono hj hji
      rw [H.1] at this
      cases this
  | succ fuel ih =>
    intro listed a w hfree hr hy hs hS H
    refine ⟨fun h => (by rw [h] at hr; cases hr), fun j hj => ?_⟩
    by_cases hji : j = i
    · subst hji; exact hy.wpOp hi (getT listed w hr hs hS) ⟨fun h => hS (late_mono h), H⟩
    · have h1 := H.2 j (ready_mono hj hji)
      obtain ⟨hjun, oj, hoj, hall⟩ := mem_ready.1 hj
      have hnot : ∀ e ∈ oj.after, Region.binds .any e = true → e.on ≠ i := fun e he hb heq => by
        have h1 := hall e he hb
        rw [heq, ready_out hr] at h1
        cases h1
      have h2 := wpOp_putIf hoj (hfree j oj hoj hji hjun hnot) (fun cs b => hsel i oi cs b hi) (fun cs b => hsel j oj cs b hoj) hQ hy h1
      have hfree' : ∀ k ok, ops[k]? = some ok → k ≠ i → (listed.setIfInBounds j true).getD k true = false →
          (∀ e ∈ ok.after, Region.binds .any e = true → e.on ≠ i) → oi.apart ops ok = true := fun k ok hk hki hun hno => by
        refine hfree k ok hk hki ?_ hno
        by_cases hjk : j = k
        · subst hjk; exact hjun
        · rw [getD_set_ne true hjk] at hun; exact hun
      have hcomm : (listed.setIfInBounds j true).setIfInBounds i true = (listed.setIfInBounds i true).setIfInBounds j true := Array.setIfInBounds_comm _ _ hji
      have hlate : late lasts ((listed.setIfInBounds i true).setIfInBounds j true) = late lasts (listed.setIfInBounds j true) := by
        rw [← hcomm]; exact late_add hil
      refine wpOp_mono (fun a' w' h3 => ?_) h2
      have hS' : late lasts (listed.setIfInBounds j true) = false → S w' := fun h => h3.2.1 (by rw [hlate]; exact h)
      refine ⟨hS', ih (listed.setIfInBounds j true) a' w' hfree' (ready_mono hr (Ne.symm hji)) h3.1 (hs.add hj) hS' ?_⟩
      rw [hcomm]
      exact h3.2.2
end late

/-- such a region, with the frame as a list of slots -/
def WE (P : Program) (N : Nat) (ops : Array Oper) (S : World → Prop) (lasts : List Nat) (Q : Post) (fuel : Nat) (listed : Array Bool) (e : Env) (w : World) : Prop :=
  ∀ a, Sat N e a → Shut ops listed → (late lasts listed = false → S w) → wpAnyL P ops (up N Q) S lasts fuel listed a w
section lates
variable {P : Program} {N : Nat} {ops : Array Oper} {S : World → Prop} {lasts : List Nat} {Q : Post} {fuel : Nat} {listed : Array Bool} {e : Env} {w : World}
theorem W_late {id : Nat} {l : List Oper} (S : World → Prop) (lasts : List Nat) (hm : P.follows .mixedOrders = true) (hS : S w.drew)
    (h : WE P N l.toArray S lasts Q l.length (Array.replicate l.length false) e w.drew) : W P N (.region id l.toArray true) Q e w :=
  fun a ha => wp_region_any hm (wpAny_of_late _ _ _ _ (by
    have := h a ha (fun j o _ hj => by
      exfalso
      by_cases hl : j < l.length
      · simp [hl] at hj
      · simp [hl] at hj) (fun _ => hS)
    simpa using this))
theorem WE_done (hr : Region.ready .any ops listed = []) (h : Q .normal e w) : WE P N ops S lasts Q fuel listed e w := by
  intro a ha _ _
  cases fuel with
  | zero => exact ⟨hr, e, ha, h⟩
  | succ f => exact ⟨fun _ => ⟨e, ha, h⟩, by rw [hr]; simp⟩
theorem WE_take (i f : Nat) {d : Tmp} {op : Op} {ty : TypeId} {pos : String} {af : Array Edge} {g : Option (Nat × Bool)} {v : Value} (hi : ops[i]? = some ⟨some d, op, ty, pos, af, g⟩)
    (hs : Region.noSelect ops = true) (hf : Region.free .any ops listed i = true) (hr : (Region.ready .any ops listed).contains i = true) (hil : lasts.contains i = false) (hw : lasts.all (fun j => waits ops f j i) = true) (hQ : NoPanics Q)
    (hg : gd ops e g = some true) (hd : Nat.blt d N = true) (h : ∀ w', S w' → PureOp P N e w' ⟨some d, op, ty, pos, af, g⟩ v)
    (k : WE P N ops S lasts Q fuel (listed.setIfInBounds i true) ((d, v) :: e) w) : WE P N ops S lasts Q (fuel + 1) listed e w := by
  intro a ha hsh hS
  have hr' : i ∈ Region.ready .any ops listed := by simpa using hr
  refine wpAnyL_first (T := S) (f := f) (oi := ⟨some d, op, ty, pos, af, g⟩) (v := v) hi (Region.noSelect_spec hs) (fun c a w ⟨e', _, hq⟩ => (hQ c e' w hq).elim) hil (.inr ⟨rfl, hw⟩) fuel listed a w (Region.free_spec hi hf) hr' (.inl ⟨ha.wanted hg, fun w' hw' => h w' hw' a ha⟩) hsh hS ?_
  exact k _ (ha.put (dst := some d) hd v) (hsh.add hr') (fun h => hS (late_mono h))
theorem WE_ex (i : Nat) {d : Tmp} {op : Op} {ty : TypeId} {pos : String} {af : Array Edge} {g : Option (Nat × Bool)} (hi : ops[i]? = some ⟨some d, op, ty, pos, af, g⟩)
    (hs : Region.noSelect ops = true) (hf : Region.free .any ops listed i = true) (hr : (Region.ready .any ops listed).contains i = true) (hil : lasts.contains i = false) (hw : lasts.all (fun j => waits ops 40 j i) = true) (hQ : NoPanics Q)
    (hg : gd ops e g = some true) (hd : Nat.blt d N = true) (h : ∃ v, (∀ w', S w' → PureOp P N e w' ⟨some d, op, ty, pos, af, g⟩ v) ∧ WE P N ops S lasts Q fuel (listed.setIfInBounds i true) ((d, v) :: e) w) : WE P N ops S lasts Q (fuel + 1) listed e w :=
  let ⟨_, h1, h2⟩ := h; WE_take i 40 hi hs hf hr hil hw hQ hg hd h1 h2
/-- what leaves every world alone may be taken at any time -/
theorem WE_takeP (i : Nat) {d : Tmp} {op : Op} {ty : TypeId} {pos : String} {af : Array Edge} {g : Option (Nat × Bool)} {v : Value} (hi : ops[i]? = some ⟨some d, op, ty, pos, af, g⟩)
    (hs : Region.noSelect ops = true) (hf : Region.free .any ops listed i = true) (hr : (Region.ready .any ops listed).contains i = true) (hil : lasts.contains i = false) (hQ : NoPanics Q)
    (hg : gd ops e g = some true) (hd : Nat.blt d N = true) (h : ∀ w', PureOp P N e w' ⟨some d, op, ty, pos, af, g⟩ v)
    (k : WE P N ops S lasts Q fuel (listed.setIfInBounds i true) ((d, v) :: e) w) : WE P N ops S lasts Q (fuel + 1) listed e w := by
  intro a ha hsh hS
  have hr' : i ∈ Region.ready .any ops listed := by simpa using hr
  refine wpAnyL_first (T := fun _ => True) (f := 0) (oi := ⟨some d, op, ty, pos, af, g⟩) (v := v) hi (Region.noSelect_spec hs) (fun c a w ⟨e', _, hq⟩ => (hQ c e' w hq).elim) hil (.inl fun _ => trivial) fuel listed a w (Region.free_spec hi hf) hr' (.inl ⟨ha.wanted hg, fun w' _ => h w' a ha⟩) hsh hS ?_
  exact k _ (ha.put (dst := some d) hd v) (hsh.add hr') (fun h => hS (late_mono h))
theorem WE_exP (i : Nat) {d : Tmp} {op : Op} {ty : TypeId} {pos : String} {af : Array Edge} {g : Option (Nat × Bool)} (hi : ops[i]? = some ⟨some d, op, ty, pos, af, g⟩)
    (hs : Region.noSelect ops = true) (hf : Region.free .any ops listed i = true) (hr : (Region.ready .any ops listed).contains i = true) (hil : lasts.contains i = false) (hQ : NoPanics Q)
    (hg : gd ops e g = some true) (hd : Nat.blt d N = true) (h : ∃ v, (∀ w', PureOp P N e w' ⟨some d, op, ty, pos, af, g⟩ v) ∧ WE P N ops S lasts Q fuel (listed.setIfInBounds i true) ((d, v) :: e) w) : WE P N ops S lasts Q (fuel + 1) listed e w :=
  let ⟨_, h1, h2⟩ := h; WE_takeP i hi hs hf hr hil hQ hg hd h1 h2
theorem WE_pass (i : Nat) {d : Tmp} {op : Op} {ty : TypeId} {pos : String} {af : Array Edge} {g : Option (Nat × Bool)} (hi : ops[i]? = some ⟨some d, op, ty, pos, af, g⟩)
    (hs : Region.noSelect ops = true) (hf : Region.free .any ops listed i = true) (hr : (Region.ready .any ops listed).contains i = true) (hil : lasts.contains i = false) (hQ : NoPanics Q)
    (hg : gd ops e g = some false) (hd : Nat.blt d N = true)
    (k : WE P N ops S lasts Q fuel (listed.setIfInBounds i true) ((d, undef) :: e) w) : WE P N ops S lasts Q (fuel + 1) listed e w := by
  intro a ha hsh hS
  have hr' : i ∈ Region.ready .any ops listed := by simpa using hr
  refine wpAnyL_first (T := fun _ => True) (f := 0) (oi := ⟨some d, op, ty, pos, af, g⟩) (v := undef) hi (Region.noSelect_spec hs) (fun c a w ⟨e', _, hq⟩ => (hQ c e' w hq).elim) hil (.inl fun _ => trivial) fuel listed a w (Region.free_spec hi hf) hr' (.inr ⟨ha.wanted hg, rfl⟩) hsh hS ?_
  exact k _ (ha.put (dst := some d) hd _) (hsh.add hr') (fun h => hS (late_mono h))
theorem WE_all {rs : List Nat} (K : Nat → Env → World → Prop) (hr : Region.ready .any ops listed = rs) (hne : rs ≠ [])
    (hk : ∀ i, i ∈ rs → ∀ e' w', K i e' w' → (late lasts (listed.setIfInBounds i true) = false → S w') ∧ WE P N ops S lasts Q fuel (listed.setIfInBounds i true) e' w')
    (h : ∀ i ∈ rs, ∃ o, ops[i]? = some o ∧ WL P N ops (thenE (K i) Q) [o] e w) : WE P N ops S lasts Q (fuel + 1) listed e w := by
  intro a ha hsh hS
  refine ⟨fun h0 => absurd (hr ▸ h0) hne, fun i hi => ?_⟩
  obtain ⟨o, ho, hw⟩ := h i (hr ▸ hi)
  have h1 := hw a ha
  unfold wpOp
  simp only [ho]
  unfold wpList at h1
  have mono : ∀ (a' : Act) (w' : World), wpList P ops (up N (thenE (K i) Q)) [] a' w' → (late lasts (listed.setIfInBounds i true) = false → S w') ∧ wpAnyL P ops (up N Q) S lasts fuel (listed.setIfInBounds i true) a' w' := by
    rintro a' w' ⟨e', hs, hK⟩
    obtain ⟨hS', hq⟩ := hk i (hr ▸ hi) e' w' hK
    exact ⟨hS', hq a' hs (hsh.add hi) hS'⟩
  have monoQ : ∀ (x : Exit) (a' : Act) (w' : World), x ≠ .normal → up N (thenE (K i) Q) x a' w' → up N Q x a' w' := by
    rintro x a' w' hx ⟨e', hs, hq⟩
    cases x <;> first | exact absurd rfl hx | exact ⟨e', hs, hq⟩
  split
  · rename_i hw'
    rw [if_pos hw'] at h1
    rcases h1 with h1 | ⟨h1, a0, w0, h2⟩
    · left
      unfold Oper.wp at h1 ⊢
      generalize (execOp a.eval o).run P w = r at h1 ⊢
      cases r with
      | ok n w1 =>
        cases n <;> simp only [Oper.upon] at h1 ⊢
        case value u => exact mono _ _ h1
        case skip => exact mono _ _ h1
        case defer dd => exact mono _ _ h1
        case enter f args =>
          refine Calls.mono h1 fun en w'' he => ?_
          cases en with
          | returned u => exact mono _ _ he
          | panicked c => exact monoQ _ _ _ (by simp) he
          | outgrown => obtain ⟨a1, w1, h3⟩ := he; exact ⟨a1, w1, monoQ _ _ _ (by simp) h3⟩
        case row row args => exact Rows.mono h1 fun u w'' he => mono _ _ he
      | halt x w1 =>
        cases x <;> simp only [Oper.upon] at h1 ⊢
        case panic u => exact monoQ _ _ _ (by simp) h1
    · exact .inr ⟨h1, a0, w0, monoQ _ _ _ (by simp) h2⟩
  · rename_i hw'
    rw [if_neg hw'] at h1
    exact mono _ _ h1
/-- the one operation that may come next: S is to hold behind it -/
theorem WE_one (i : Nat) {o : Oper} (hr : Region.ready .any ops listed = [i]) (ho : ops[i]? = some o)
    (h : WL P N ops (thenE (fun e' w' => S w' ∧ WE P N ops S lasts Q fuel (listed.setIfInBounds i true) e' w') Q) [o] e w) : WE P N ops S lasts Q (fuel + 1) listed e w :=
  WE_all (fun j e' w' => S w' ∧ WE P N ops S lasts Q fuel (listed.setIfInBounds j true) e' w') hr (by simp) (fun j _ e' w' hq => ⟨fun _ => hq.1, hq.2⟩) fun j hj => by
    have : j = i := by simpa using hj
    subst this
    exact ⟨o, ho, h⟩
/-- one of the last ones -/
theorem WE_last (i : Nat) {o : Oper} (hr : Region.ready .any ops listed = [i]) (ho : ops[i]? = some o) (hl : late lasts (listed.setIfInBounds i true) = true)
    (h : WL P N ops (thenE (fun e' w' => WE P N ops S lasts Q fuel (listed.setIfInBounds i true) e' w') Q) [o] e w) : WE P N ops S lasts Q (fuel + 1) listed e w :=
  WE_all (fun j e' w' => WE P N ops S lasts Q fuel (listed.setIfInBounds j true) e' w') hr (by simp) (fun j hj e' w' hq => ⟨fun hf => (by
      have : j = i := by simpa using hj
      subst this
      rw [hl] at hf; cases hf), hq⟩) fun j hj => by
    have : j = i := by simpa using hj
    subst this
    exact ⟨o, ho, h⟩
end lates

theorem Run.kp {P : Program} {f : FuncId} {args : List Value} {w0 w : World} {u : Value} (h : Run P f args w fun v w' => v = u ∧ w = w') (hk : Keep w0 w) : Run P f args w fun v w' => v = u ∧ Keep w0 w' :=
  h.mono fun _ _ ⟨a, b⟩ => ⟨a, b ▸ hk⟩
theorem Run.kk {P : Program} {f : FuncId} {args : List Value} {w0 w : World} {u : Value} (h : Run P f args w fun v w' => v = u ∧ Keep w w') (hk : Keep w0 w) : Run P f args w fun v w' => v = u ∧ Keep w0 w' :=
  h.mono fun _ _ ⟨a, b⟩ => ⟨a, hk.keep b⟩
end Go.E

/-
  The engine: bits, bytes, and a cursor that is moved by its functions. Conditions: none.
-/
import Derived.Test.YtpdhdnmcafjadaaMrk
import Derived.Test.YtpdhdnmcafjadaaSh
import Derived.Test.YtpdhdnmcafjadaaTys
set_option linter.unusedVariables false
set_option linter.unusedSimpArgs false
namespace Go.E
open Go Go.RowKit Go.Proofs
section bits
variable {P : Program} {N : Nat} {e : Env} {w : World} {dst : Option Tmp} {x y : Operand} {t t' : TypeId} {ty : TypeId} {pos : String} {af : Array Edge} {g : Option (Nat × Bool)} {a b : Int}
theorem and_le (a b : Int) (h0 : 0 ≤ b) (h1 : b < 9223372036854775808) : ∃ r : Int, 0 ≤ r ∧ r ≤ b ∧ ∀ (P : Program) (w : World), (Op.intBits .and .i64 a b).run P w = .ok (.int .i64 r) w := by
  refine ⟨((BitVec.ofInt 64 a &&& BitVec.ofInt 64 b).toNat : Int), by omega, ?_, fun P w => ?_⟩
  · have hb : (BitVec.ofInt 64 b).toNat = b.toNat := by
      rw [BitVec.toNat_ofInt]; omega
    have := Nat.and_le_right (n := (BitVec.ofInt 64 a).toNat) (m := (BitVec.ofInt 64 b).toNat)
    rw [BitVec.toNat_and]; omega
  · have hb : (BitVec.ofInt 64 b).toNat = b.toNat := by
      rw [BitVec.toNat_ofInt]; omega
    have := Nat.and_le_right (n := (BitVec.ofInt 64 a).toNat) (m := (BitVec.ofInt 64 b).toNat)
    have hw : IntKind.i64.wrap ((BitVec.ofInt 64 a &&& BitVec.ofInt 64 b).toNat : Int) = ((BitVec.ofInt 64 a &&& BitVec.ofInt 64 b).toNat : Int) := wrap_i64 (by omega) (by rw [BitVec.toNat_and]; omega)
    simp only [Op.intBits, Sem.run_pure]
    exact congrArg (fun r => Result.ok (Value.int .i64 r) w) hw
theorem o_and (hx : ev e x = some (.int .i64 a)) (hy : ev e y = some (.int .i64 b)) (h0 : 0 ≤ b) (h1 : b < 9223372036854775808) :
    ∃ r : Int, 0 ≤ r ∧ r ≤ b ∧ ∀ w, PureOp P N e w ⟨dst, .binOp .and t x y t', ty, pos, af, g⟩ (.int .i64 r) := by
  obtain ⟨r, h2, h3, h4⟩ := and_le a b h0 h1
  refine ⟨r, h2, h3, fun w ac ha => ?_⟩
  have := h4 P w
  simp [execOp, ha.ev hx, ha.ev hy, eqGuard, binOp, this]
theorem o_xor (hx : ev e x = some (.int .i64 a)) (hy : ev e y = some (.int .i64 b)) :
    ∃ r : Int, ∀ w, PureOp P N e w ⟨dst, .binOp .xor t x y t', ty, pos, af, g⟩ (.int .i64 r) :=
  ⟨_, fun w ac ha => by simp [execOp, ha.ev hx, ha.ev hy, eqGuard, binOp, Op.intBits]; rfl⟩
theorem o_shr {k : IntKind} (hx : ev e x = some (.int .i64 a)) (hy : ev e y = some (.int k b)) (h0 : 0 ≤ b) :
    ∃ r : Int, ∀ w, PureOp P N e w ⟨dst, .binOp .shr t x y t', ty, pos, af, g⟩ (.int .i64 r) :=
  ⟨_, fun w ac ha => by simp [execOp, ha.ev hx, ha.ev hy, eqGuard, binOp, Op.shift, show ¬ b < 0 by omega]; rfl⟩
end bits
section ex
variable {P : Program} {N : Nat} {ops : Array Oper} {Q : Post} {K : Env → Prop} {C : World → Prop} {rest : List Oper} {e : Env} {w : World} {d : Tmp} {op : Op} {ty : TypeId} {pos : String} {af : Array Edge} {g : Option (Nat × Bool)} {b : Int}
theorem WL_any (h : ∃ r : Int, ∀ w, PureOp P N e w ⟨some d, op, ty, pos, af, g⟩ (.int .i64 r)) (hg : gd ops e g = some true) (hd : Nat.blt d N = true) (k : ∀ r : Int, WL P N ops Q rest ((d, .int .i64 r) :: e) w) :
    WL P N ops Q (⟨some d, op, ty, pos, af, g⟩ :: rest) e w := let ⟨r, h⟩ := h; WL_pure hg hd (h w) (k r)
theorem WQ_any (h : ∃ r : Int, ∀ w, PureOp P N e w ⟨some d, op, ty, pos, af, g⟩ (.int .i64 r)) (hg : gd ops e g = some true) (hd : Nat.blt d N = true) (k : ∀ r : Int, WQ P N ops C K rest ((d, .int .i64 r) :: e)) :
    WQ P N ops C K (⟨some d, op, ty, pos, af, g⟩ :: rest) e := let ⟨r, h⟩ := h; WQ_pure hg hd (fun w' _ => h w') (k r)
theorem WQ_and (h : ∃ r : Int, 0 ≤ r ∧ r ≤ b ∧ ∀ w, PureOp P N e w ⟨some d, op, ty, pos, af, g⟩ (.int .i64 r)) (hg : gd ops e g = some true) (hd : Nat.blt d N = true) (k : ∀ r : Int, 0 ≤ r → r ≤ b → WQ P N ops C K rest ((d, .int .i64 r) :: e)) :
    WQ P N ops C K (⟨some d, op, ty, pos, af, g⟩ :: rest) e := let ⟨r, h1, h2, h⟩ := h; WQ_pure hg hd (fun w' _ => h w') (k r h1 h2)
theorem WL_and (h : ∃ r : Int, 0 ≤ r ∧ r ≤ b ∧ ∀ w, PureOp P N e w ⟨some d, op, ty, pos, af, g⟩ (.int .i64 r)) (hg : gd ops e g = some true) (hd : Nat.blt d N = true) (k : ∀ r : Int, 0 ≤ r → r ≤ b → WL P N ops Q rest ((d, .int .i64 r) :: e) w) :
    WL P N ops Q (⟨some d, op, ty, pos, af, g⟩ :: rest) e w := let ⟨r, h1, h2, h⟩ := h; WL_pure hg hd (h w) (k r h1 h2)
end ex
def u8R : Rp Int where
  sz := 1
  rep _ x cs fp := cs = [.int .u8 x] ∧ fp = []
  len h := by rw [h.1]; rfl
  dom h := by rw [h.2]; simp
  same h _ := h
  one h := by rw [h.1]; simp [Value.oneCell']
end Go.E

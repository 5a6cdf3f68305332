/-
  More operations: shifts, bits, a slice held against nil. Conditions: none; over any program.
-/
import Derived.Test.YtoemiahnilmdlaaGk
set_option linter.unusedVariables false
set_option linter.unusedSimpArgs false
namespace Go.E
open Go Go.RowKit
section
variable {P : Program} {N : Nat} {e : Env} {w : World} {dst : Option Tmp} {ty t t' : TypeId} {pos : String} {af : Array Edge} {g : Option (Nat × Bool)} {x y : Operand} {k' : IntKind}
theorem o_shl1 {n : Nat} (hx : ev e x = some (.int .i64 1)) (hy : ev e y = some (.int k' n)) (hn : n ≤ 20) :
    PureOp P N e w ⟨dst, .binOp .shl t x y t', ty, pos, af, g⟩ (.int .i64 ((2 ^ n : Nat) : Int)) :=
  fun ac ha => by
    have h1 : min ((n : Int)).toNat IntKind.i64.bits = n := by simp [IntKind.bits]; omega
    have h2 : (2 : Nat) ^ n ≤ 2 ^ 20 := Nat.pow_le_pow_right (by decide) hn
    have h4 : (2 : Int) ^ n = ((2 ^ n : Nat) : Int) := by simp
    have h3 : IntKind.i64.wrap ((2 ^ n : Nat) : Int) = ((2 ^ n : Nat) : Int) := by
      generalize (2 : Nat) ^ n = q at *
      exact wrap_i64 (by omega) (by omega)
    have h5 : (Op.shift .shl .i64 1 k' n).run P w = .ok (.int .i64 ((2 ^ n : Nat) : Int)) w := by
      unfold Op.shift
      rw [if_neg (by omega)]
      dsimp only
      rw [h1, Int.one_mul, h4, h3]; rfl
    simp only [execOp, ha.ev hx, ha.ev hy, eqGuard, binOp]
    generalize Op.shift BinOp.shl .i64 1 k' n = z at h5 ⊢
    simp [h5]
theorem o_shrN {m i : Nat} (hx : ev e x = some (.int .i64 m)) (hy : ev e y = some (.int k' i)) (hi : i ≤ 63) :
    PureOp P N e w ⟨dst, .binOp .shr t x y t', ty, pos, af, g⟩ (.int .i64 ((m / 2 ^ i : Nat) : Int)) :=
  fun ac ha => by
    have h1 : min ((i : Int)).toNat IntKind.i64.bits = i := by simp [IntKind.bits]; omega
    have h4 : (2 : Int) ^ i = ((2 ^ i : Nat) : Int) := by simp
    have h5 : (Op.shift .shr .i64 m k' i).run P w = .ok (.int .i64 ((m / 2 ^ i : Nat) : Int)) w := by
      unfold Op.shift
      rw [if_neg (by omega)]
      dsimp only
      rw [h1, h4, Int.fdiv_eq_ediv_of_nonneg _ (Int.natCast_nonneg _), ← Int.natCast_ediv]; rfl
    simp only [execOp, ha.ev hx, ha.ev hy, eqGuard, binOp]
    generalize Op.shift BinOp.shr .i64 m k' i = z at h5 ⊢
    simp [h5]
theorem o_and1 {m : Nat} (hx : ev e x = some (.int .i64 m)) (hy : ev e y = some (.int .i64 1)) :
    PureOp P N e w ⟨dst, .binOp .and t x y t', ty, pos, af, g⟩ (.int .i64 ((m % 2 : Nat) : Int)) :=
  fun ac ha => by
    have h1 : (BitVec.ofInt 64 (m : Int) &&& BitVec.ofInt 64 1).toNat = m % 2 := by
      rw [BitVec.toNat_and, BitVec.toNat_ofInt, BitVec.toNat_ofInt]
      have e1 : ((m : Int) % ((2 ^ 64 : Nat) : Int)).toNat = m % 2 ^ 64 := by omega
      have e2 : ((1 : Int) % ((2 ^ 64 : Nat) : Int)).toNat = 1 := by decide
      rw [e1, e2, Nat.and_one_is_mod]; omega
    have h5 : (Op.intBits .and .i64 m 1).run P w = .ok (.int .i64 ((m % 2 : Nat) : Int)) w := by
      unfold Op.intBits
      dsimp only
      change (pure (Value.int .i64 (IntKind.i64.wrap ((BitVec.ofInt 64 (m : Int) &&& BitVec.ofInt 64 1).toNat : Int))) : Sem Value).run P w = _
      rw [h1, wrap_i64 (by omega) (by omega)]; rfl
    simp only [execOp, ha.ev hx, ha.ev hy, eqGuard, binOp]
    simp [h5]
theorem run_equalIn_nil {el : TypeId} [ht : SliceT P t el] (w : World) (d : Nat) (A : Option Addr) (n c : Nat) : (Op.equalIn (d + 1) t (.slice A n c) (.slice none 0 0)).run P w = .ok A.isNone w := by
  cases A <;> simp [Op.equalIn, underlying, run_program, ht.u]
theorem o_neqNil {el : TypeId} {A : Option Addr} {n c : Nat} [ht : SliceT P t el] (hx : ev e x = some (.slice A n c)) (hy : ev e y = some (.slice none 0 0)) :
    PureOp P N e w ⟨dst, .binOp .neq t x y t', ty, pos, af, g⟩ (.bool A.isSome) :=
  fun ac ha => by
    have h1 := run_equalIn_nil (P := P) (t := t) w 9999 A n c
    simp only [execOp, ha.ev hx, ha.ev hy, eqGuard, binOp]
    simp [Op.equal, Op.maxDepth, h1]
end
end Go.E

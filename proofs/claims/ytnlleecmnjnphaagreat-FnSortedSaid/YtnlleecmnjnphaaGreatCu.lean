/-
  The walk: what comes behind a block, proved once for all its ways out. Conditions: none; over any program.
-/
import Derived.Test.YtnlleecmnjnphaaGreatGk
set_option linter.unusedVariables false
set_option linter.unusedSimpArgs false
namespace Go.E
open Go Go.RowKit
theorem W_cut {P : Program} {N : Nat} {Q : Post} {e : Env} {w : World} {c y : Code} {id : Nat} (E : Env) (I : World → Prop) (k : ∀ w', I w' → W P N y Q E w')
    (h : W P N c (inE id (thenE (fun e' w' => Has E e' ∧ I w') Q)) e w) : W P N c (inE id (thenE (W P N y Q) Q)) e w := by
  refine W_mono h ?_
  have hn : ∀ e' w', (Has E e' ∧ I w') → W P N y Q e' w' := fun e' w' hh => W_sub hh.1 (k w' hh.2)
  intro x e' w' q
  cases x with
  | normal => exact hn _ _ q
  | exit id' =>
    simp only [inE] at q ⊢
    cases hb : Nat.beq id' id with
    | true => rw [hb] at q; exact hn _ _ q
    | false => rw [hb] at q; exact q
  | goto l => exact q
  | ret => exact q
  | panic ch => exact q
  | outgrown => exact q
/-- the same, behind any code -/
theorem W_cutR {P : Program} {N : Nat} {Q : Post} {e : Env} {w : World} {c y : Code} (E : Env) (I : World → Prop) (k : ∀ w', I w' → W P N y Q E w')
    (h : W P N c (thenE (fun e' w' => Has E e' ∧ I w') Q) e w) : W P N c (thenE (W P N y Q) Q) e w := by
  refine W_mono h ?_
  intro x e' w' q
  cases x with
  | normal => exact W_sub q.1 (k w' q.2)
  | exit id' => exact q
  | goto l => exact q
  | ret => exact q
  | panic ch => exact q
  | outgrown => exact q
end Go.E

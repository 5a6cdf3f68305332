/-
  Contracts: slices.IndexFunc and slices.ContainsFunc on numbers; an array value from its parts. Conditions: as stated.
-/
import Derived.Test.YtnlleecmnjnphaaGreatRa
set_option linter.unusedVariables false
set_option linter.unusedSimpArgs false
namespace Go.E
open Go Go.RowKit Go.Proofs
def fillG (pl : Nat → Option (Nat × Nat)) (cells : List Value) : List (Nat × Value) → Option (List Value)
  | [] => some cells
  | (i, v) :: r => match pl i with
    | none => none
    | some (off, size) => if v.cells.toList.length = size ∧ off + v.cells.toList.length ≤ cells.length then fillG pl (cells.take off ++ v.cells.toList ++ cells.drop (off + v.cells.toList.length)) r else none
theorem fillG_eq (pl : Nat → Option (Nat × Nat)) : ∀ (vs : List (Nat × Value)) (cells cs : List Value), fillG pl cells vs = some cs → Instr.fill pl cells.toArray vs = some cs.toArray
  | [], cells, cs, h => by
    simp only [fillG, Option.some.injEq] at h
    simp [Instr.fill, h]
  | (i, v) :: r, cells, cs, h => by
    simp only [fillG] at h
    cases hp : pl i with
    | none => simp [hp] at h
    | some q =>
      obtain ⟨off, size⟩ := q
      simp only [hp] at h
      split at h
      · rename_i hc
        have ih := fillG_eq pl r _ cs h
        have hf := foldl_splice v.cells.toList 0 off cells.toArray (by simpa using hc.2)
        simp only [Instr.fill, hp]
        rw [if_neg (by simp; exact ⟨by simpa using hc.1, by simpa using hc.2⟩)]
        rw [← ih, ← Array.foldl_toList, Array.toList_zipIdx]
        congr 1
      · cases h
theorem o_buildA {P : Program} {N : Nat} {e : Env} {w : World} {t el : TypeId} {n sz bytes sz' bytes' : Nat} {zc zc' : List Value} {dst : Option Tmp} {ty : TypeId} {pos : String} {af : Array Edge} {g : Option (Nat × Bool)} [he : ElemT P t sz bytes zc] [hs : ArrayT P t n el] [hel : ElemT P el sz' bytes' zc'] {ps : List (Nat × Operand)} {vs : List (Nat × Value)} {cs : List Value} (hx : evp e ps = some vs) (hb : fillG (fun i => some (i * sz', sz')) zc vs = some cs) :
    PureOp P N e w ⟨dst, .build t ps.toArray, ty, pos, af, g⟩ (.agg cs.toArray) :=
  o_build hx fun w' => by
    obtain ⟨zv, hz, hzc⟩ := run_zero (P := P) he w'
    have := fillG_eq _ vs zc cs hb
    simp [Instr.build, Sem.run_bind, hz, Result.andThen_ok, underlying, run_program, hs.u, Sem.run_pure, run_sizeOf hel, hzc, this]
def anyB (n : Nat) (p : Nat → Bool) : Bool := !allB n fun i => !p i
theorem anyB_idx (n : Nat) (p : Nat → Bool) : decide (0 ≤ idxB n p) = anyB n p := by
  unfold anyB
  by_cases h : ∀ i, i < n → p i = false
  · rw [idxB_none h, allB_true fun i hi => by simp [h i hi]]; rfl
  · have : ∃ k, k < n ∧ (∀ i, i < k → p i = false) ∧ p k = true := by
      refine Classical.byContradiction fun hn => h ?_
      intro i
      induction i using Nat.strongRecOn with
      | _ i ih =>
        intro hi
        cases hp : p i with
        | false => rfl
        | true => exact absurd ⟨i, hi, fun j hj => ih j hj (by omega), hp⟩ hn
    obtain ⟨k, hk, ha, h1⟩ := this
    rw [idxB_hit hk ha h1, allB_false hk (by simp [h1])]; simp
attribute [local irreducible] W WL WD WE thenE inE retQ PureOp Keep Cell Cells Blk Sl Rows Own Src Fresh

end Go.E

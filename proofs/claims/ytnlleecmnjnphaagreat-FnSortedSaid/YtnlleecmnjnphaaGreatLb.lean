/-
  Contracts of the laws' helpers: marking and holding slices of numbers, and slices of such. Conditions: as stated.
-/
import Derived.Test.YtnlleecmnjnphaaGreatLa
import Derived.Test.YtnlleecmnjnphaaGreatMrk
set_option linter.unusedVariables false
set_option linter.unusedSimpArgs false
namespace Go.E
open Go Go.RowKit Go.Proofs
attribute [local irreducible] W WL WD WE thenE inE retQ PureOp Keep Cell Cells Blk Sl Rows Own Src Fresh

theorem slR_get {w : World} {A : Option Addr} {n c : Nat} {xss : List (List Int)} {fp : List Nat} (h : Sl (slR intR) w (.slice A n c) xss fp) {i : Int} (h0 : 0 ≤ i) (hi : i < n) :
    A.isSome = true ∧ ∃ u f, Cell w (ea A 1 i) u ∧ Sl intR w u (gi xss i) f ∧ (∀ b, b ∈ f → b ∈ fp) := by
  obtain ⟨hA, cs, f, ⟨u, rfl, hu⟩, hf, hc⟩ := h.get h0 hi
  exact ⟨hA, u, f, hc.one, hu, hf⟩

theorem heldI_nonneg {k : Int} {xs : List Int} (hk : 0 ≤ k) (h : ¬ heldI k xs < 0) : heldI k xs = k + (xs.length : Int) := by
  unfold heldI at h ⊢
  split
  · rfl
  · rename_i hne; rw [if_neg hne] at h; omega

end Go.E

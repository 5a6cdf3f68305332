/-
  Plain functions and lemmas on lists and numbers: what the Go functions compute. No program here. Conditions: none.
-/
import Derived.Test.YtkjnndaphdhlkaaMem
set_option linter.unusedVariables false
set_option linter.unusedSimpArgs false
namespace Go.E
open Go

theorem gi_ext {α : Type} [Inhabited α] {xs ys : List α} (hl : xs.length = ys.length) (h : ∀ i, i < xs.length → gi xs (i : Int) = gi ys (i : Int)) : xs = ys := by
  apply List.ext_getElem hl
  intro i h1 h2
  have := h i h1
  rwa [gi_lt h1, gi_lt h2] at this
def inR (x lo hi : Int) : Bool := decide (lo ≤ x ∧ x ≤ hi)
def allB (n : Nat) (f : Nat → Bool) : Bool := (List.range n).all f
theorem allB_false {n k : Nat} {f : Nat → Bool} (hk : k < n) (h : f k = false) : allB n f = false := by
  unfold allB
  rw [List.all_eq_false]
  exact ⟨k, by simpa using hk, by simp [h]⟩
theorem allB_true {n : Nat} {f : Nat → Bool} (h : ∀ i, i < n → f i = true) : allB n f = true := by
  unfold allB
  rw [List.all_eq_true]
  intro x hx
  exact h x (by simpa using hx)
theorem all_step {k : Nat} {f : Nat → Bool} (h : ∀ i, i < k → f i = true) (hk : f k = true) : ∀ i, i < k + 1 → f i = true := by
  intro i hi
  rcases Nat.lt_or_ge i k with h1 | h1
  · exact h i h1
  · have : i = k := by omega
    subst this; exact hk
theorem allB_congr {n : Nat} {f g : Nat → Bool} (h : ∀ i, i < n → f i = g i) : allB n f = allB n g := by
  unfold allB
  rw [Bool.eq_iff_iff, List.all_eq_true, List.all_eq_true]
  constructor <;> intro hh x hx <;> have := h x (by simpa using hx) <;> have := hh x hx <;> simp_all

/-- element i of an ascending list of numbers from 0 to hi is in order -/
def ascAt (hi : Int) (xs : List Int) (i : Nat) : Bool := inR (gi xs i) 0 hi && (decide (i = 0) || decide (gi xs ((i : Int) - 1) < gi xs i))
def isFieldList (xs : List Int) : Bool := allB xs.length (ascAt 2 xs) && decide (0 < xs.length)
end Go.E

/-
  Contracts: what dominates an item and what it dominates, ranks, the width. Conditions: as stated.
-/
import Derived.Test.YtnlleecmnjnphaaGreatX1
set_option linter.unusedVariables false
set_option linter.unusedSimpArgs false
namespace Go.E
open Go Go.RowKit Go.Proofs
/-- the items that compare with the one of a number in a way -/
def relL (L : List Itm) (e : List Nod) (id code : Int) : List Int := if fine L e && decide (0 ≤ findI L id) then pickN L (fun i => decide (cmpE e (gi L (i : Int)) (gi L (findI L id)) = code)) L.length else []
theorem relL_len (L : List Itm) (e : List Nod) (id code : Int) : (relL L e id code).length ≤ 16 := by
  unfold relL
  split
  · rename_i h
    simp only [fine, Bool.and_eq_true] at h
    have := (areItems_at h.1.1).2
    have := pickN_len L (fun i => decide (cmpE e (gi L (i : Int)) (gi L (findI L id)) = code)) L.length
    omega
  · simp
theorem findI_lt (L : List Itm) (id : Int) : findI L id < L.length := by
  unfold findI
  rcases idxB_cases L.length fun i => decide ((gi L (i : Int)).id = id) with ⟨h, _⟩ | ⟨k, h, hk, _⟩ <;> rw [h] <;> omega
theorem flip1 {e : List Nod} (h : isExpr e = true) (x y : Itm) : (cmpE e x y = 1 ↔ cmpE e y x = -1) := by
  have h1 := (cmpE_ok h).anti x y
  have h2 := (cmpE_ok h).anti y x
  have r1 := (cmpE_ok h).rng x y
  have r2 := (cmpE_ok h).rng y x
  constructor
  · intro h3
    have := h1.2 (by omega); omega
  · intro h3
    have := h2.2 (by omega); omega
def rankL (L : List Itm) (e : List Nod) (id : Int) : Int := if fine L e && decide (0 ≤ findI L id) then ((relL L e id 1).length : Int) else -1
def freeN (L : List Itm) (e : List Nod) (i : Nat) : Nat → Int
  | 0 => 0
  | n + 1 => if cmpE e (gi L (i : Int)) (gi L (n : Int)) = 2 ∨ cmpE e (gi L (i : Int)) (gi L (n : Int)) = 0 then freeN L e i n + 1 else freeN L e i n
def widN (L : List Itm) (e : List Nod) : Nat → Int
  | 0 => 0
  | n + 1 => max (widN L e n) (freeN L e n L.length)
def width (L : List Itm) (e : List Nod) : Int := if fine L e then widN L e L.length else 0
theorem freeN_bd (L : List Itm) (e : List Nod) (i n : Nat) : 0 ≤ freeN L e i n ∧ freeN L e i n ≤ n := by
  induction n with
  | zero => simp [freeN]
  | succ n ih => simp only [freeN]; split <;> omega
theorem freeN_succ (L : List Itm) (e : List Nod) (i n : Nat) : freeN L e i (n + 1) = if cmpE e (gi L (i : Int)) (gi L (n : Int)) = 2 ∨ cmpE e (gi L (i : Int)) (gi L (n : Int)) = 0 then freeN L e i n + 1 else freeN L e i n := rfl
theorem widN_succ (L : List Itm) (e : List Nod) (n : Nat) : widN L e (n + 1) = max (widN L e n) (freeN L e n L.length) := rfl
theorem fine_ok {L : List Itm} {e : List Nod} (h : fine L e = true) : (∀ i : Nat, i < L.length → isItem (gi L (i : Int)) = true) ∧ L.length ≤ 16 ∧ isExpr e = true := by
  simp only [fine, Bool.and_eq_true] at h
  exact ⟨(areItems_at h.1).1, (areItems_at h.1).2, h.2⟩
attribute [local irreducible] W WL WD WE thenE inE retQ PureOp Keep Cell Cells Blk Sl Rows Own Src Fresh
attribute [local irreducible] cmpE isExpr areItems pickN freeN widN

end Go.E

/-
  Contracts of the laws' helpers on pairs, wishes and nodes: comparisons and marks. Conditions: as stated.
-/
import Derived.Test.YtnlleecmnjnphaaGreatLb
import Derived.Test.YtnlleecmnjnphaaGreatBs
set_option linter.unusedVariables false
set_option linter.unusedSimpArgs false
namespace Go.E
open Go Go.RowKit Go.Proofs
attribute [local irreducible] W WL WD WE thenE inE retQ PureOp Keep Cell Cells Blk Sl Rows Own Src Fresh

/-- pairs, wishes and nodes with the numbers from k on -/
def markP (k : Int) : List (Int × Int) → List (Int × Int)
  | [] => []
  | _ :: r => (k, k + 1) :: markP (k + 2) r
theorem markP_len (k : Int) (xs : List (Int × Int)) : (markP k xs).length = xs.length := by
  induction xs generalizing k with
  | nil => rfl
  | cons x r ih => simp [markP, ih]
theorem markP_append (k : Int) (a b : List (Int × Int)) : markP k (a ++ b) = markP k a ++ markP (k + 2 * (a.length : Int)) b := by
  induction a generalizing k with
  | nil => simp [markP]
  | cons x r ih =>
    simp only [List.cons_append, markP, ih, List.length_cons]
    congr 3; omega
theorem gi_markP {k : Int} {xs : List (Int × Int)} {i : Nat} (h : i < xs.length) : gi (markP k xs) (i : Int) = (k + 2 * (i : Int), k + 2 * (i : Int) + 1) := by
  induction xs generalizing k i with
  | nil => simp at h
  | cons x r ih =>
    cases i with
    | zero => simp [markP, gi]
    | succ i =>
      have := ih (k := k + 2) (i := i) (by simpa using h)
      simp only [markP, gi, Int.toNat_natCast, List.getD_eq_getElem?_getD, List.getElem?_cons_succ] at this ⊢
      rw [this]
      congr 1 <;> omega
def wMark (k : Int) (w : Wsh) : Wsh := ⟨k, k + 1, k + 2, iota (k + 3) w.list.length, markP (k + 3 + w.list.length) w.pairs⟩
def wCnt (w : Wsh) : Nat := 3 + w.list.length + 2 * w.pairs.length
def nCnt : List Nod → Nat
  | [] => 0
  | x :: r => 1 + wCnt x.wish + nCnt r
def markN (k : Int) : List Nod → List Nod
  | [] => []
  | x :: r => ⟨k, wMark (k + 1) x.wish⟩ :: markN (k + 1 + wCnt x.wish) r
theorem nCnt_append (a b : List Nod) : nCnt (a ++ b) = nCnt a + nCnt b := by
  induction a with
  | nil => simp [nCnt]
  | cons x r ih => simp only [List.cons_append, nCnt, ih]; omega
theorem nCnt_take {L : List Nod} {k : Nat} (h : k < L.length) : nCnt (L.take (k + 1)) = nCnt (L.take k) + (1 + wCnt (gi L (k : Int)).wish) := by
  rw [take_gi h, nCnt_append]; simp [nCnt]
theorem nCnt_take_le (L : List Nod) (k : Nat) : nCnt (L.take k) ≤ nCnt L := by
  have := nCnt_append (L.take k) (L.drop k)
  rw [List.take_append_drop] at this; omega
theorem nCnt_le (L : List Nod) : nCnt L ≤ 4 * (L.length + totN L) := by
  induction L with
  | nil => simp [nCnt]
  | cons x r ih => simp only [nCnt, totN, List.length_cons, wCnt, totW]; omega
theorem markN_len (k : Int) (xs : List Nod) : (markN k xs).length = xs.length := by
  induction xs generalizing k with
  | nil => rfl
  | cons x r ih => simp [markN, ih]
theorem markN_append (k : Int) (a b : List Nod) : markN k (a ++ b) = markN k a ++ markN (k + (nCnt a : Int)) b := by
  induction a generalizing k with
  | nil => simp [markN, nCnt]
  | cons x r ih =>
    simp only [List.cons_append, markN, ih, nCnt]
    congr 3; omega

end Go.E

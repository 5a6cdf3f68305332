/-
  Contracts: what groups of voters choose, skybands: picks of items and lists of scores. Conditions: as stated.
-/
import Derived.Test.YtoemiahnilmdlaaX3
set_option linter.unusedVariables false
set_option linter.unusedSimpArgs false
namespace Go.E
open Go Go.RowKit Go.Proofs
/-- the items that are picked, where the arguments are valid -/
def pickIf (G : Bool) (L : List Itm) (p : Nat → Bool) : List Int := if G then pickN L p L.length else []
def scoreN (f : Nat → Int) : Nat → List Int
  | 0 => []
  | n + 1 => scoreN f n ++ [f n]
theorem scoreN_len (f : Nat → Int) (n : Nat) : (scoreN f n).length = n := by
  induction n with
  | zero => rfl
  | succ n ih => simp [scoreN, ih]
theorem scoreN_succ (f : Nat → Int) (n : Nat) : scoreN f (n + 1) = scoreN f n ++ [f n] := rfl
def scoreIf (G : Bool) (L : List Itm) (f : Nat → Int) : List Int := if G then scoreN f L.length else []
def skyAt (L : List Itm) (e : List Nod) (k : Int) (i : Nat) : Bool := decide (rankL L e (gi L (i : Int)).id < k)
def vetoAt (L : List Itm) (g : List (List Nod)) (m : Int) (i : Nat) : Bool := allB g.length fun v => decide (rankL L (gi g (v : Int)) (gi L (i : Int)).id ≤ m)
def beatsAll (g : List (List Nod)) (x y : Itm) : Bool := allB g.length (fun v => decide (cmpE (gi g (v : Int)) x y = 1) || decide (cmpE (gi g (v : Int)) x y = 0)) && !allB g.length fun v => decide (cmpE (gi g (v : Int)) x y ≠ 1)
def unanAt (L : List Itm) (g : List (List Nod)) (i : Nat) : Bool := allB L.length fun k => !beatsAll g (gi L (k : Int)) (gi L (i : Int))
def bordN (L : List Itm) (g : List (List Nod)) (i : Nat) : Nat → Int
  | 0 => 0
  | n + 1 => bordN L g i n + ((relL L (gi g (n : Int)) (gi L (i : Int)).id (-1)).length : Int) - ((relL L (gi g (n : Int)) (gi L (i : Int)).id 1).length : Int)
theorem bordN_succ (L : List Itm) (g : List (List Nod)) (i n : Nat) : bordN L g i (n + 1) = bordN L g i n + ((relL L (gi g (n : Int)) (gi L (i : Int)).id (-1)).length : Int) - ((relL L (gi g (n : Int)) (gi L (i : Int)).id 1).length : Int) := rfl
theorem bordN_bd (L : List Itm) (g : List (List Nod)) (i n : Nat) : -16 * (n : Int) ≤ bordN L g i n ∧ bordN L g i n ≤ 16 * (n : Int) := by
  induction n with
  | zero => simp [bordN]
  | succ n ih =>
    have h1 := relL_len L (gi g (n : Int)) (gi L (i : Int)).id (-1)
    have h2 := relL_len L (gi g (n : Int)) (gi L (i : Int)).id 1
    simp only [bordN]; omega
def apprN (L : List Itm) (g : List (List Nod)) (i : Nat) : Nat → Int
  | 0 => 0
  | n + 1 => if hasI (bestItems L (gi g (n : Int))) (gi L (i : Int)).id then apprN L g i n + 1 else apprN L g i n
theorem apprN_succ (L : List Itm) (g : List (List Nod)) (i n : Nat) : apprN L g i (n + 1) = if hasI (bestItems L (gi g (n : Int))) (gi L (i : Int)).id then apprN L g i n + 1 else apprN L g i n := rfl
theorem apprN_bd (L : List Itm) (g : List (List Nod)) (i n : Nat) : 0 ≤ apprN L g i n ∧ apprN L g i n ≤ n := by
  induction n with
  | zero => simp [apprN]
  | succ n ih => simp only [apprN]; split <;> omega
theorem pickIf_len {G : Bool} {L : List Itm} {p : Nat → Bool} (h : G = true → L.length ≤ 16) : (pickIf G L p).length ≤ 16 := by
  unfold pickIf
  split
  · rename_i hg; have := pickN_len L p L.length; have := h hg; omega
  · simp
theorem scoreIf_len {G : Bool} {L : List Itm} {f : Nat → Int} (h : G = true → L.length ≤ 16) : (scoreIf G L f).length ≤ 16 := by
  unfold scoreIf
  split
  · rename_i hg; rw [scoreN_len]; exact h hg
  · simp

end Go.E

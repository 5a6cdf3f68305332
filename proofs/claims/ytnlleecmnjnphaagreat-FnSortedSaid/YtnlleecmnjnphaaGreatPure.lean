/-
  Plain functions and lemmas on lists and numbers: what the Go functions compute. No program here. Conditions: none.
-/
import Derived.Test.YtnlleecmnjnphaaGreatGk
set_option linter.unusedVariables false
set_option linter.unusedSimpArgs false
namespace Go.E
open Go

theorem gi_ext {α : Type} [Inhabited α] {xs ys : List α} (hl : xs.length = ys.length) (h : ∀ i, i < xs.length → gi xs (i : Int) = gi ys (i : Int)) : xs = ys := by
  apply List.ext_getElem hl
  intro i h1 h2
  have := h i h1
  rwa [gi_lt h1, gi_lt h2] at this
def inR (x lo hi : Int) : Bool := decide (lo ≤ x ∧ x ≤ hi)
def allB (n : Nat) (f : Nat → Bool) : Bool := (List.range n).all f
theorem allB_false {n k : Nat} {f : Nat → Bool} (hk : k < n) (h : f k = false) : allB n f = false := by
  unfold allB
  rw [List.all_eq_false]
  exact ⟨k, by simpa using hk, by simp [h]⟩
theorem allB_true {n : Nat} {f : Nat → Bool} (h : ∀ i, i < n → f i = true) : allB n f = true := by
  unfold allB
  rw [List.all_eq_true]
  intro x hx
  exact h x (by simpa using hx)
theorem all_step {k : Nat} {f : Nat → Bool} (h : ∀ i, i < k → f i = true) (hk : f k = true) : ∀ i, i < k + 1 → f i = true := by
  intro i hi
  rcases Nat.lt_or_ge i k with h1 | h1
  · exact h i h1
  · have : i = k := by omega
    subst this; exact hk
theorem allB_congr {n : Nat} {f g : Nat → Bool} (h : ∀ i, i < n → f i = g i) : allB n f = allB n g := by
  unfold allB
  rw [Bool.eq_iff_iff, List.all_eq_true, List.all_eq_true]
  constructor <;> intro hh x hx <;> have := h x (by simpa using hx) <;> have := hh x hx <;> simp_all

/-- the numbers from k on -/
def iota (k : Int) (n : Nat) : List Int := (List.range n).map fun (i : Nat) => k + (i : Int)
theorem iota_len (k : Int) (n : Nat) : (iota k n).length = n := by simp [iota]
theorem gi_iota {k : Int} {n i : Nat} (h : i < n) : gi (iota k n) (i : Int) = k + (i : Int) := by
  rw [gi_lt (by rw [iota_len]; exact h)]; simp [iota]
def heldI (k : Int) (xs : List Int) : Int := if xs = iota k xs.length then k + (xs.length : Int) else -1
theorem heldI_iota (k : Int) (n : Nat) : heldI k (iota k n) = k + (n : Int) := by unfold heldI; rw [iota_len, if_pos rfl]
theorem gi_set {α : Type} [Inhabited α] {xs : List α} {k : Nat} {v : α} (hk : k < xs.length) (i : Nat) : gi (xs.set k v) (i : Int) = if i = k then v else gi xs (i : Int) := by
  simp only [gi, Int.toNat_natCast, List.getD_eq_getElem?_getD, List.getElem?_set]
  by_cases h : k = i
  · subst h; simp [hk]
  · rw [if_neg h, if_neg (fun e => h e.symm)]
/-- lists of lists: the numbers from k on, in their shape -/
def markL (k : Int) : List (List Int) → List (List Int)
  | [] => []
  | x :: r => iota k x.length :: markL (k + x.length) r
def totL : List (List Int) → Nat
  | [] => 0
  | x :: r => x.length + totL r
def heldL (k : Int) : List (List Int) → Int
  | [] => k
  | x :: r => let j := heldI k x; if j < 0 then -1 else heldL j r
theorem totL_append (a b : List (List Int)) : totL (a ++ b) = totL a + totL b := by
  induction a with
  | nil => simp [totL]
  | cons x r ih => simp only [List.cons_append, totL, ih]; omega
theorem markL_len (k : Int) (xs : List (List Int)) : (markL k xs).length = xs.length := by
  induction xs generalizing k with
  | nil => rfl
  | cons x r ih => simp [markL, ih]
theorem markL_append (k : Int) (a b : List (List Int)) : markL k (a ++ b) = markL k a ++ markL (k + (totL a : Int)) b := by
  induction a generalizing k with
  | nil => simp [markL, totL]
  | cons x r ih =>
    simp only [List.cons_append, markL, totL, ih]
    congr 3; omega
theorem heldL_markL (k : Int) (h : 0 ≤ k) (xs : List (List Int)) : heldL k (markL k xs) = k + (totL xs : Int) := by
  induction xs generalizing k with
  | nil => simp [markL, heldL, totL]
  | cons x r ih =>
    simp only [markL, heldL, totL, heldI_iota]
    rw [if_neg (by omega), ih _ (by omega)]; omega
theorem heldL_step (k : Int) (a : List (List Int)) (x : List Int) (b : List (List Int)) : True := trivial

def wl3 (a b : Int) (n : Nat) : List (List Int) := (List.range n).flatMap fun (c : Nat) => if 0 < a + b + (c : Int) then [[a, b, (c : Int)]] else []
def wl2 (a : Int) (n : Nat) : List (List Int) := (List.range n).flatMap fun (b : Nat) => wl3 a (b : Int) 4
def wl1 (n : Nat) : List (List Int) := (List.range n).flatMap fun (a : Nat) => wl2 (a : Int) 4
def weightLists : List (List Int) := wl1 4
theorem wl3_succ (a b : Int) (n : Nat) : wl3 a b (n + 1) = wl3 a b n ++ (if 0 < a + b + (n : Int) then [[a, b, (n : Int)]] else []) := by simp [wl3, List.range_succ]
theorem wl2_succ (a : Int) (n : Nat) : wl2 a (n + 1) = wl2 a n ++ wl3 a (n : Int) 4 := by simp [wl2, List.range_succ]
theorem wl1_succ (n : Nat) : wl1 (n + 1) = wl1 n ++ wl2 (n : Int) 4 := by simp [wl1, List.range_succ]
theorem wl3_len (a b : Int) (n : Nat) : (wl3 a b n).length ≤ n := by
  induction n with
  | zero => simp [wl3]
  | succ n ih => rw [wl3_succ, List.length_append]; split <;> simp <;> omega
theorem wl2_len (a : Int) (n : Nat) : (wl2 a n).length ≤ 4 * n := by
  induction n with
  | zero => simp [wl2]
  | succ n ih => rw [wl2_succ, List.length_append]; have := wl3_len a (n : Int) 4; omega
theorem wl1_len (n : Nat) : (wl1 n).length ≤ 16 * n := by
  induction n with
  | zero => simp [wl1]
  | succ n ih => rw [wl1_succ, List.length_append]; have := wl2_len (n : Int) 4; omega

def areVals (xs : List Int) : Bool := allB xs.length fun i => inR (gi xs (i : Int)) 0 9
def isItem (x : Itm) : Bool := inR x.id 0 99 && decide (x.vals.length = 3) && areVals x.vals
theorem areVals_at {xs : List Int} (h : areVals xs = true) {i : Nat} (hi : i < xs.length) : 0 ≤ gi xs (i : Int) ∧ gi xs (i : Int) ≤ 9 := by
  have := List.all_eq_true.1 h i (by simpa using hi)
  simpa [inR] using this
theorem isItem_len {x : Itm} (h : isItem x = true) : x.vals.length = 3 := by simp [isItem] at h; exact h.1.2
theorem isItem_vals {x : Itm} (h : isItem x = true) : areVals x.vals = true := by simp [isItem] at h; exact h.2
theorem isItem_id {x : Itm} (h : isItem x = true) : 0 ≤ x.id ∧ x.id ≤ 99 := by simp [isItem, inR] at h; exact h.1.1
def areWts (ws : List Int) : Bool := allB ws.length fun i => inR (gi ws (i : Int)) 0 3
def okWts (ws : List Int) : Bool := areWts ws && decide (ws.length = 3)
theorem areWts_at {xs : List Int} (h : areWts xs = true) {i : Nat} (hi : i < xs.length) : 0 ≤ gi xs (i : Int) ∧ gi xs (i : Int) ≤ 3 := by
  have := List.all_eq_true.1 h i (by simpa using hi)
  simpa [inR] using this
def dot (xs ws : List Int) : Nat → Int
  | 0 => 0
  | n + 1 => dot xs ws n + gi xs (n : Int) * gi ws (n : Int)
def utility (x : Itm) (ws : List Int) : Int := if isItem x && okWts ws then dot x.vals ws 3 else 0
theorem mul_bd {a b : Int} (h : 0 ≤ a ∧ a ≤ 9) (k : 0 ≤ b ∧ b ≤ 3) : 0 ≤ a * b ∧ a * b ≤ 27 := by
  constructor
  · exact Int.mul_nonneg h.1 k.1
  · calc a * b ≤ 9 * b := Int.mul_le_mul_of_nonneg_right h.2 k.1
      _ ≤ 27 := by omega
theorem dot_bd {xs ws : List Int} (h : areVals xs = true) (k : areWts ws = true) (hx : xs.length = 3) (hw : ws.length = 3) : ∀ n, n ≤ 3 → 0 ≤ dot xs ws n ∧ dot xs ws n ≤ 27 * n
  | 0, _ => by simp [dot]
  | n + 1, hn => by
    have ih := dot_bd h k hx hw n (by omega)
    have := mul_bd (areVals_at h (i := n) (by omega)) (areWts_at k (i := n) (by omega))
    simp only [dot]; omega
def szN (k : Int) (n : Nat) : Int := if k - (n : Int) < 0 then -1 else k - (n : Int)

def totI : List Itm → Nat
  | [] => 0
  | x :: r => x.vals.length + totI r
theorem totI_append (a b : List Itm) : totI (a ++ b) = totI a + totI b := by
  induction a with
  | nil => simp [totI]
  | cons x r ih => simp only [List.cons_append, totI, ih]; omega
theorem totI_take {L : List Itm} {k : Nat} (h : k < L.length) : totI (L.take (k + 1)) = totI (L.take k) + (gi L (k : Int)).vals.length := by
  rw [take_gi h, totI_append]; simp [totI]
theorem totI_take_le (L : List Itm) (k : Nat) : totI (L.take k) ≤ totI L := by
  have := totI_append (L.take k) (L.drop k)
  rw [List.take_append_drop] at this; omega
theorem totI_each {L : List Itm} {k : Nat} (h : k < L.length) : (gi L (k : Int)).vals.length ≤ totI L := by
  have := totI_take h; have := totI_take_le L (k + 1); omega
/-- the numbers from k on, in the shape of items -/
def markI (k : Int) : List Itm → List Itm
  | [] => []
  | x :: r => ⟨k, iota (k + 1) x.vals.length⟩ :: markI (k + 1 + x.vals.length) r
theorem markI_len (k : Int) (xs : List Itm) : (markI k xs).length = xs.length := by
  induction xs generalizing k with
  | nil => rfl
  | cons x r ih => simp [markI, ih]
theorem markI_append (k : Int) (a b : List Itm) : markI k (a ++ b) = markI k a ++ markI (k + (a.length + totI a : Nat)) b := by
  induction a generalizing k with
  | nil => simp [markI, totI]
  | cons x r ih =>
    simp only [List.cons_append, markI, totI, ih, List.length_cons]
    congr 3; omega

theorem szN_ge {k : Int} {n : Nat} (h : ¬ szN k n < 0) : (n : Int) ≤ k := by
  unfold szN at h
  split at h <;> omega
theorem szN_bd {k : Int} {n : Nat} (h : ¬ szN k n < 0) (hk : k ≤ 1048576) : 0 ≤ szN k n ∧ szN k n ≤ 1048576 := by
  refine ⟨by omega, ?_⟩
  unfold szN
  split <;> omega
theorem totL_markL (k : Int) (xs : List (List Int)) : totL (markL k xs) = totL xs := by
  induction xs generalizing k with
  | nil => rfl
  | cons x r ih => simp [markL, totL, ih, iota_len]

/-- element i of an ascending list of numbers from 0 to hi is in order -/
def ascAt (hi : Int) (xs : List Int) (i : Nat) : Bool := inR (gi xs i) 0 hi && (decide (i = 0) || decide (gi xs ((i : Int) - 1) < gi xs i))
def isFieldList (xs : List Int) : Bool := allB xs.length (ascAt 2 xs) && decide (0 < xs.length)
end Go.E

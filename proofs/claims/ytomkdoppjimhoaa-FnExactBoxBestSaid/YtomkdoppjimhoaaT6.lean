/-
  Plain laws: boxes of items. No program here. Conditions: as stated.
-/
import Derived.Test.YtomkdoppjimhoaaT1
set_option linter.unusedVariables false
set_option linter.unusedSimpArgs false
namespace Go.E
open Go Go.RowKit Go.Proofs
/-- not above in any field, below in one -/
def lwr (f a b : List Int) : Bool := (allB f.length fun k => decide (gi a (gi f (k : Int)) ≤ gi b (gi f (k : Int)))) && exB f.length fun k => decide (gi a (gi f (k : Int)) < gi b (gi f (k : Int)))
def minL (a b : List Int) : List Int := List.zipWith min a b
theorem minL_len {a b : List Int} (h : a.length = b.length) : (minL a b).length = a.length := by rw [minL, List.length_zipWith]; omega
theorem minL_self (a : List Int) : minL a a = a := by
  induction a with
  | nil => rfl
  | cons x r ih => simp only [minL, List.zipWith_cons_cons, Int.min_self] at *; rw [ih]
theorem minL_at {a b : List Int} {k : Nat} (ha : k < a.length) (hb : k < b.length) : gi (minL a b) (k : Int) = min (gi a (k : Int)) (gi b (k : Int)) := by
  rw [gi_lt (by rw [minL, List.length_zipWith]; omega), gi_lt ha, gi_lt hb]
  simp [minL]
/-- the least values of the first n items -/
def crn (M : List Itm) : Nat → List Int
  | 0 => (gi M 0).vals
  | n + 1 => minL (crn M n) (gi M (n : Int)).vals
theorem crn_succ (M : List Itm) (n : Nat) : crn M (n + 1) = minL (crn M n) (gi M (n : Int)).vals := rfl
theorem crn_1 (M : List Itm) : crn M 1 = (gi M 0).vals := by rw [crn, crn]; exact minL_self _
theorem crn_len {M : List Itm} (h : ∀ i : Nat, i < M.length → (gi M (i : Int)).vals.length = 3) (h0 : 0 < M.length) : ∀ n, n ≤ M.length → (crn M n).length = 3
  | 0, _ => h 0 h0
  | n + 1, hn => by
    have h1 := crn_len h h0 n (by omega)
    have h2 := h n (by omega)
    rw [crn, minL_len (by omega)]; exact h1
def cutN (f : List Int) (F : List Itm) (c : List Int) (k : Nat) : Bool := exB k fun i => lwr f (gi F (i : Int)).vals c
theorem cutN_succ (f : List Int) (F : List Itm) (c : List Int) (k : Nat) : cutN f F c (k + 1) = (cutN f F c k || lwr f (gi F (k : Int)).vals c) := by
  unfold cutN exB
  rw [allB_succ]
  simp only [Bool.not_and, Bool.not_not]
def cut (f : List Int) (F : List Itm) (c : List Int) : Bool := cutN f F c F.length
theorem cut_iff {f : List Int} {F : List Itm} {c : List Int} : cut f F c = true ↔ ∃ y, y ∈ F ∧ lwr f y.vals c = true := by
  unfold cut cutN
  rw [exB_iff]
  constructor
  · rintro ⟨k, hk, h⟩; exact ⟨_, gi_mem hk, h⟩
  · rintro ⟨y, hy, h⟩
    obtain ⟨k, hk, rfl⟩ := List.getElem_of_mem hy
    exact ⟨k, hk, by rw [gi_lt hk]; exact h⟩
/-- an item more among those found -/
def addB (f : List Int) (F : List Itm) (x : Itm) : List Itm := if cut f F x.vals then F else F.filter (fun y => !lwr f x.vals y.vals) ++ [x]
theorem addB_len (f : List Int) (F : List Itm) (x : Itm) : (addB f F x).length ≤ F.length + 1 := by
  unfold addB
  split
  · omega
  · have := List.length_filter_le (fun y => !lwr f x.vals y.vals) F
    rw [List.length_append, List.length_cons, List.length_nil]; omega
def leafN (f : List Int) (M : List Itm) (S : List Itm × Nat) : Nat → List Itm × Nat
  | 0 => S
  | k + 1 => (addB f (leafN f M S k).1 (gi M (k : Int)), (leafN f M S k).2 + 1)
theorem leafN_bd (f : List Int) (M : List Itm) (S : List Itm × Nat) : ∀ k, (leafN f M S k).1.length ≤ S.1.length + k ∧ (leafN f M S k).2 = S.2 + k
  | 0 => ⟨Nat.le_refl _, rfl⟩
  | k + 1 => by
    have h1 := leafN_bd f M S k
    have h2 := addB_len f (leafN f M S k).1 (gi M (k : Int))
    rw [leafN]; dsimp only; omega
def boxP (f : List Int) : Nat → List Itm → Nat → List Itm × Nat → List Itm × Nat
  | 0, _, _, S => S
  | N + 1, M, d, S =>
    if M.length = 0 then S
    else if cut f S.1 (crn M M.length) then S
    else if 2 < M.length then boxP f N ((byF M (gi f ((d % f.length : Nat) : Int))).drop (M.length / 2)) (d + 1) (boxP f N ((byF M (gi f ((d % f.length : Nat) : Int))).take (M.length / 2)) (d + 1) S)
    else leafN f M S M.length
theorem boxP_bd (f : List Int) : ∀ (N : Nat) (M : List Itm) (d : Nat) (S : List Itm × Nat), (boxP f N M d S).1.length ≤ S.1.length + M.length ∧ (boxP f N M d S).2 ≤ S.2 + M.length
  | 0, M, d, S => ⟨Nat.le_add_right _ _, Nat.le_add_right _ _⟩
  | N + 1, M, d, S => by
    rw [boxP]
    split
    · exact ⟨Nat.le_add_right _ _, Nat.le_add_right _ _⟩
    split
    · exact ⟨Nat.le_add_right _ _, Nat.le_add_right _ _⟩
    split
    · have h1 := boxP_bd f N ((byF M (gi f ((d % f.length : Nat) : Int))).take (M.length / 2)) (d + 1) S
      have h2 := boxP_bd f N ((byF M (gi f ((d % f.length : Nat) : Int))).drop (M.length / 2)) (d + 1) (boxP f N ((byF M (gi f ((d % f.length : Nat) : Int))).take (M.length / 2)) (d + 1) S)
      rw [List.length_take, byF_len] at h1
      rw [List.length_drop, byF_len] at h2
      omega
    · have := leafN_bd f M S M.length
      omega
theorem box_nil {f : List Int} {N : Nat} {M : List Itm} {d : Nat} {S : List Itm × Nat} (h : M.length = 0) : boxP f (N + 1) M d S = S := by rw [boxP, if_pos h]
theorem box_cut {f : List Int} {N : Nat} {M : List Itm} {d : Nat} {S : List Itm × Nat} (h : M.length ≠ 0) (hc : cut f S.1 (crn M M.length) = true) : boxP f (N + 1) M d S = S := by rw [boxP, if_neg h, if_pos hc]
theorem box_more {f : List Int} {N : Nat} {M : List Itm} {d : Nat} {S : List Itm × Nat} (hc : cut f S.1 (crn M M.length) = false) (h2 : 2 < M.length) :
    boxP f (N + 1) M d S = boxP f N ((byF M (gi f ((d % f.length : Nat) : Int))).drop (M.length / 2)) (d + 1) (boxP f N ((byF M (gi f ((d % f.length : Nat) : Int))).take (M.length / 2)) (d + 1) S) := by
  rw [boxP, if_neg (by omega), if_neg (by rw [hc]; decide), if_pos h2]
theorem box_leaf {f : List Int} {N : Nat} {M : List Itm} {d : Nat} {S : List Itm × Nat} (h : M.length ≠ 0) (hc : cut f S.1 (crn M M.length) = false) (h2 : ¬ 2 < M.length) : boxP f (N + 1) M d S = leafN f M S M.length := by
  rw [boxP, if_neg h, if_neg (by rw [hc]; decide), if_neg h2]
def boxBest (L : List Itm) (f : List Int) : List Int × Int := if areItems L && isFieldList f then (sortP id (idsOf (boxP f L.length L 0 ([], 0)).1), ((boxP f L.length L 0 ([], 0)).2 : Int)) else ([], 0)
theorem boxBest_len (L : List Itm) (f : List Int) : (boxBest L f).1.length ≤ 16 := by
  unfold boxBest
  split
  · rename_i h
    simp only [Bool.and_eq_true] at h
    have h1 := (areItems_at h.1).2
    have h2 := (boxP_bd f L.length L 0 ([], 0)).1
    simp only [List.length_nil] at h2
    dsimp only
    rw [sortP_len, idsOf_len]; omega
  · simp
theorem byF_sub {M : List Itm} {k : Int} {x : Itm} : x ∈ byF M k ↔ x ∈ M := (sortP_perm _ _).mem_iff
end Go.E

/-
  Plain laws: stable insertion sorts. No program here. Conditions: none.
-/
import Derived.Test.YtnlleecmnjnphaaGreatRc
set_option linter.unusedVariables false
set_option linter.unusedSimpArgs false
namespace Go.E
open Go

/-- where x goes among the first k of out -/
def posP {α : Type} [Inhabited α] (v : α → Int) (out : List α) (x : α) : Nat → Nat
  | 0 => 0
  | k + 1 => if v x < v (gi out (k : Int)) then posP v out x k else k + 1
def insP {α : Type} [Inhabited α] (v : α → Int) (out : List α) (x : α) : List α := out.take (posP v out x out.length) ++ x :: out.drop (posP v out x out.length)
def sortN {α : Type} [Inhabited α] (v : α → Int) (xs : List α) : Nat → List α
  | 0 => []
  | n + 1 => insP v (sortN v xs n) (gi xs (n : Int))
def sortP {α : Type} [Inhabited α] (v : α → Int) (xs : List α) : List α := sortN v xs xs.length
section
variable {α β : Type} [Inhabited α] [Inhabited β]
theorem posP_le (v : α → Int) (out : List α) (x : α) : ∀ k, posP v out x k ≤ k
  | 0 => Nat.le_refl _
  | k + 1 => by
    simp only [posP]
    split
    · have := posP_le v out x k; omega
    · omega
theorem insP_len (v : α → Int) (out : List α) (x : α) : (insP v out x).length = out.length + 1 := by
  have := posP_le v out x out.length
  simp only [insP, List.length_append, List.length_take, List.length_cons, List.length_drop]; omega
theorem sortN_len (v : α → Int) (xs : List α) (n : Nat) : (sortN v xs n).length = n := by
  induction n with
  | zero => rfl
  | succ n ih => simp only [sortN, insP_len, ih]
theorem sortP_len (v : α → Int) (xs : List α) : (sortP v xs).length = xs.length := sortN_len v xs _
theorem gi_mem {xs : List α} {i : Nat} (h : i < xs.length) : gi xs (i : Int) ∈ xs := by rw [gi_lt h]; exact List.getElem_mem h
theorem insP_perm (v : α → Int) (out : List α) (x : α) : (insP v out x).Perm (x :: out) := by
  rw [insP]
  refine (List.perm_middle).trans ?_
  rw [List.take_append_drop]
theorem sortN_perm (v : α → Int) (xs : List α) : ∀ n, n ≤ xs.length → (sortN v xs n).Perm (xs.take n)
  | 0, _ => by simp [sortN]
  | n + 1, h => by
    rw [sortN, take_gi (by omega)]
    refine (insP_perm v _ _).trans ?_
    refine (List.Perm.cons _ (sortN_perm v xs n (by omega))).trans ?_
    exact (List.perm_append_singleton _ _).symm
theorem sortP_perm (v : α → Int) (xs : List α) : (sortP v xs).Perm xs := by
  have := sortN_perm v xs xs.length (Nat.le_refl _)
  rwa [List.take_of_length_le (Nat.le_refl _)] at this
theorem gi_mapI {f : α → β} {xs : List α} {i : Nat} (h : i < xs.length) : gi (xs.map f) (i : Int) = f (gi xs (i : Int)) := by
  rw [gi_lt (by simpa using h), gi_lt h, List.getElem_map]
/-- sorting goes through a map -/
theorem posP_map {f : α → β} {v : β → Int} (out : List α) (x : α) : ∀ k, k ≤ out.length → posP v (out.map f) (f x) k = posP (fun a => v (f a)) out x k
  | 0, _ => rfl
  | k + 1, h => by simp only [posP, gi_mapI (show k < out.length by omega), posP_map out x k (by omega)]
theorem insP_map {f : α → β} {v : β → Int} (out : List α) (x : α) : insP v (out.map f) (f x) = (insP (fun a => v (f a)) out x).map f := by
  simp only [insP, List.length_map, posP_map out x out.length (Nat.le_refl _), List.map_append, List.map_cons, List.map_take, List.map_drop]
theorem sortN_map {f : α → β} {v : β → Int} (xs : List α) : ∀ n, n ≤ xs.length → sortN v (xs.map f) n = (sortN (fun a => v (f a)) xs n).map f
  | 0, _ => rfl
  | n + 1, h => by rw [sortN, sortN, sortN_map xs n (by omega), gi_mapI (by omega), insP_map]
theorem sortP_map {f : α → β} {v : β → Int} (xs : List α) : sortP v (xs.map f) = (sortP (fun a => v (f a)) xs).map f := by
  rw [sortP, List.length_map, sortN_map xs _ (Nat.le_refl _)]; rfl
end
theorem map_iota {α : Type} [Inhabited α] (L : List α) : (iota 0 L.length).map (fun i => gi L i) = L := by
  refine gi_ext (by simp [iota_len]) fun i hi => ?_
  have hi' : i < L.length := by simpa [iota_len] using hi
  rw [gi_mapI (by rw [iota_len]; exact hi'), gi_iota hi', Int.zero_add]
/-- places in order, and the items there -/
theorem order_items (L : List Itm) (v : Itm → Int) : (sortP (fun i => v (gi L i)) (iota 0 L.length)).map (fun i => gi L i) = sortP v L := by
  rw [← sortP_map (f := fun i => gi L i) (v := v), map_iota]
/-- sorted by numbers without equals: there is one such order -/
theorem insP_sorted (out : List Int) (x : Int) (h : out.Pairwise (· ≤ ·)) : (insP id out x).Pairwise (· ≤ ·) := by
  have key : ∀ k, k ≤ out.length → (∀ y, y ∈ out.take (posP id out x k) → y ≤ x) ∧ (∀ y, y ∈ (out.take k).drop (posP id out x k) → x ≤ y) := by
    intro k
    induction k with
    | zero => intro _; simp [posP]
    | succ k ih =>
      intro hk
      obtain ⟨h1, h2⟩ := ih (by omega)
      simp only [posP, id]
      split
      · rename_i hx
        refine ⟨h1, fun y hy => ?_⟩
        rw [take_gi (show k < out.length by omega)] at hy
        have hl : posP id out x k ≤ (out.take k).length := by have := posP_le id out x k; rw [List.length_take]; omega
        rw [List.drop_append_of_le_length hl] at hy
        rcases List.mem_append.1 hy with hy | hy
        · exact h2 y hy
        · have : y = gi out (k : Int) := by simpa using hy
          subst this; omega
      · rename_i hx
        refine ⟨fun y hy => ?_, fun y hy => ?_⟩
        · rw [take_gi (show k < out.length by omega)] at hy
          rcases List.mem_append.1 hy with hy | hy
          · obtain ⟨i, hi, rfl⟩ := List.getElem_of_mem hy
            have hi' : i < k := by rw [List.length_take] at hi; omega
            rw [List.getElem_take]
            have := List.pairwise_iff_getElem.1 h i k (by omega) (by omega) hi'
            rw [gi_lt (show k < out.length by omega)] at hx; omega
          · have : y = gi out (k : Int) := by simpa using hy
            subst this; omega
        · rw [List.drop_of_length_le (by rw [List.length_take]; omega)] at hy
          cases hy
  obtain ⟨h1, h2⟩ := key out.length (Nat.le_refl _)
  rw [List.take_of_length_le (Nat.le_refl _)] at h2
  rw [insP, List.pairwise_append]
  refine ⟨h.sublist (List.take_sublist _ _), List.pairwise_cons.2 ⟨h2, h.sublist (List.drop_sublist _ _)⟩, fun a ha b hb => ?_⟩
  rcases List.mem_cons.1 hb with rfl | hb
  · exact h1 a ha
  · have := h1 a ha; have := h2 b hb; omega
theorem sortN_sorted (xs : List Int) : ∀ n, (sortN id xs n).Pairwise (· ≤ ·)
  | 0 => by simp [sortN]
  | n + 1 => insP_sorted _ _ (sortN_sorted xs n)
theorem sortP_sorted (xs : List Int) : (sortP id xs).Pairwise (· ≤ ·) := sortN_sorted xs _
theorem sorted_one {a b : List Int} (ha : a.Pairwise (· ≤ ·)) (hb : b.Pairwise (· ≤ ·)) (hp : a.Perm b) : a = b := by
  refine List.Perm.eq_of_pairwise (le := (· ≤ ·)) (fun x y _ _ h1 h2 => Int.le_antisymm h1 h2) ha hb hp
end Go.E

/-
  Plain laws: finding an item by its id. Conditions: as stated.
-/
import Derived.Test.YtnlleecmnjnphaaGreatX2
set_option linter.unusedVariables false
set_option linter.unusedSimpArgs false
namespace Go.E
open Go Go.RowKit Go.Proofs
theorem id_lt {L : List Itm} (h : areItems L = true) {i k : Nat} (hik : i < k) (hk : k < L.length) : (gi L (i : Int)).id < (gi L (k : Int)).id := by
  simp only [areItems, Bool.and_eq_true] at h
  have at_ : ∀ i, i < L.length → itAt L i = true := fun i hi => List.all_eq_true.1 h.1 i (by simpa using hi)
  induction k with
  | zero => omega
  | succ k ih =>
    have h1 := at_ (k + 1) hk
    simp only [itAt, Bool.and_eq_true, Bool.or_eq_true, decide_eq_true_eq] at h1
    have h2 : (gi L (k : Int)).id < (gi L ((k + 1 : Nat) : Int)).id := by
      have := h1.2.resolve_left (by omega)
      rwa [show (((k + 1 : Nat) : Int) - 1) = (k : Int) by omega] at this
    rcases Nat.lt_or_ge i k with hc | hc
    · have := ih hc (by omega); omega
    · obtain rfl : i = k := by omega
      exact h2
def IdInj (M : List Itm) : Prop := ∀ x y, x ∈ M → y ∈ M → x.id = y.id → x = y
theorem mem_gi {M : List Itm} {x : Itm} (h : x ∈ M) : ∃ i : Nat, i < M.length ∧ gi M (i : Int) = x := by
  obtain ⟨i, hi, rfl⟩ := List.getElem_of_mem h
  exact ⟨i, hi, gi_lt hi⟩
theorem giM_mem {M : List Itm} {i : Nat} (h : i < M.length) : gi M (i : Int) ∈ M := by rw [gi_lt h]; exact List.getElem_mem _
theorem areItems_inj {L : List Itm} (h : areItems L = true) : IdInj L := by
  intro x y hx hy he
  obtain ⟨i, hi, rfl⟩ := mem_gi hx
  obtain ⟨k, hk, rfl⟩ := mem_gi hy
  rcases Nat.lt_trichotomy i k with hc | hc | hc
  · have := id_lt h hc hk; omega
  · subst hc; rfl
  · have := id_lt h hc hi; omega
theorem pickN_mem {L : List Itm} {p : Nat → Bool} {y : Int} : ∀ {n : Nat}, y ∈ pickN L p n → ∃ i, i < n ∧ p i = true ∧ (gi L (i : Int)).id = y := by
  intro n
  induction n with
  | zero => intro h; simp [pickN] at h
  | succ n ih =>
    intro h
    rw [pickN] at h
    rcases List.mem_append.1 h with h1 | h1
    · obtain ⟨i, hi, h2, h3⟩ := ih h1
      exact ⟨i, by omega, h2, h3⟩
    · split at h1
      · rename_i hp
        simp at h1
        exact ⟨n, by omega, hp, h1.symm⟩
      · simp at h1
theorem findI_id {L : List Itm} {id : Int} (h : 0 ≤ findI L id) : (gi L (findI L id)).id = id := by
  rcases idxB_cases L.length (fun i => decide ((gi L (i : Int)).id = id)) with ⟨h1, _⟩ | ⟨k, h1, hk, h2, _⟩
  · have e : findI L id = -1 := h1
    omega
  · have e : findI L id = k := h1
    rw [e]; simpa using h2
theorem findI_no {L : List Itm} {id : Int} (h : ¬ 0 ≤ findI L id) : ∀ x, x ∈ L → x.id ≠ id := by
  rcases idxB_cases L.length (fun i => decide ((gi L (i : Int)).id = id)) with ⟨h1, h2⟩ | ⟨k, h1, hk, h2, _⟩
  · intro x hx
    obtain ⟨i, hi, rfl⟩ := mem_gi hx
    simpa using h2 i hi
  · have e : findI L id = k := h1
    omega
theorem gz_mem {M : List Itm} {i : Int} (h0 : 0 ≤ i) (h1 : i < M.length) : gi M i ∈ M := by
  have := giM_mem (M := M) (i := i.toNat) (by omega)
  rwa [show ((i.toNat : Nat) : Int) = i by omega] at this
theorem find_nn {L : List Itm} {x : Itm} (hx : x ∈ L) : 0 ≤ findI L x.id := by
  by_cases h0 : 0 ≤ findI L x.id
  · exact h0
  · exact absurd rfl (findI_no h0 _ hx)
theorem find_gi {L : List Itm} (hL : IdInj L) {x : Itm} (hx : x ∈ L) : gi L (findI L x.id) = x := by
  have h0 := find_nn hx
  exact hL _ _ (gz_mem h0 (findI_lt _ _)) hx (findI_id h0)
theorem mem_pickN {L : List Itm} {p : Nat → Bool} : ∀ {n i : Nat}, i < n → p i = true → (gi L (i : Int)).id ∈ pickN L p n := by
  intro n
  induction n with
  | zero => intro i h; omega
  | succ n ih =>
    intro i hi hp
    rw [pickN]
    rcases Nat.lt_or_ge i n with h | h
    · exact List.mem_append_left _ (ih h hp)
    · obtain rfl : i = n := by omega
      rw [if_pos hp]; simp
end Go.E

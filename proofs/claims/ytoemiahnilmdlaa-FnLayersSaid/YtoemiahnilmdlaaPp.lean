/-
  Plain laws: a stable sort is the list of its levels, one after the other. Conditions: as stated.
-/
import Derived.Test.YtoemiahnilmdlaaSo
set_option linter.unusedVariables false
set_option linter.unusedSimpArgs false
namespace Go.E
open Go Go.RowKit Go.Proofs
section
variable (v : Int → Int)
theorem posP_gt (out : List Int) (x : Int) : ∀ k : Nat, k ≤ out.length → ∀ j : Nat, posP v out x k ≤ j → j < k → v x < v (gi out (j : Int))
  | 0, _, j, _, h => by omega
  | k + 1, hk, j, h1, h2 => by
    simp only [posP] at h1
    split at h1
    · rename_i hlt
      rcases Nat.lt_or_ge j k with h3 | h3
      · exact posP_gt out x k (by omega) j h1 h3
      · obtain rfl : j = k := by omega
        exact hlt
    · omega
theorem insP_level (out : List Int) (x c : Int) : (insP v out x).filter (fun y => decide (v y = c)) = out.filter (fun y => decide (v y = c)) ++ [x].filter (fun y => decide (v y = c)) := by
  have hs : out.filter (fun y => decide (v y = c)) = (out.take (posP v out x out.length)).filter (fun y => decide (v y = c)) ++ (out.drop (posP v out x out.length)).filter (fun y => decide (v y = c)) := by
    rw [← List.filter_append, List.take_append_drop]
  unfold insP
  rw [List.filter_append, List.filter_cons]
  by_cases hc : v x = c
  · have hd : (out.drop (posP v out x out.length)).filter (fun y => decide (v y = c)) = [] := by
      rw [List.filter_eq_nil_iff]
      intro y hy
      obtain ⟨j, hj, rfl⟩ := List.getElem_of_mem hy
      rw [List.length_drop] at hj
      have := posP_gt v out x out.length (Nat.le_refl _) (posP v out x out.length + j) (by omega) (by omega)
      rw [gi_lt (by omega)] at this
      rw [List.getElem_drop]
      simp; omega
    rw [hs, hd, List.append_nil, if_pos (by simpa using hc)]
    simp [hc]
  · rw [hs, if_neg (by simpa using hc)]; simp [hc]
theorem sortN_level (xs : List Int) (c : Int) : ∀ n : Nat, n ≤ xs.length → (sortN v xs n).filter (fun y => decide (v y = c)) = (xs.take n).filter (fun y => decide (v y = c))
  | 0, _ => by simp [sortN]
  | n + 1, h => by
    rw [sortN, insP_level, sortN_level xs c n (by omega), take_gi (by omega), List.filter_append]
theorem sortP_level (xs : List Int) (c : Int) : (sortP v xs).filter (fun y => decide (v y = c)) = xs.filter (fun y => decide (v y = c)) := by
  rw [sortP, sortN_level v xs c _ (Nat.le_refl _), List.take_length]
theorem sortP_pair (xs : List Int) : (sortP v xs).Pairwise fun a b => v a ≤ v b := by
  have h1 := sortP_sorted (xs.map v)
  have h2 := sortP_map (f := v) (v := id) xs
  rw [h2, List.pairwise_map] at h1
  exact h1
theorem split_level : ∀ {A : List Int}, (A.Pairwise fun a b => v a ≤ v b) → ∀ m : Int, A.filter (fun y => decide (v y < m + 1)) = A.filter (fun y => decide (v y < m)) ++ A.filter (fun y => decide (v y = m))
  | [], _, m => rfl
  | x :: r, h, m => by
    obtain ⟨h1, h2⟩ := List.pairwise_cons.1 h
    have ih := split_level h2 m
    rcases Int.lt_trichotomy (v x) m with hx | hx | hx
    · rw [List.filter_cons, List.filter_cons, List.filter_cons, if_pos (by simp; omega), if_pos (by simpa using hx), if_neg (by simp; omega), ih]; rfl
    · have hr : r.filter (fun y => decide (v y < m)) = [] := by
        rw [List.filter_eq_nil_iff]; intro y hy; have := h1 y hy; simp; omega
      rw [List.filter_cons, List.filter_cons, List.filter_cons, if_pos (by simp; omega), if_neg (by simp; omega), if_pos (by simpa using hx), ih, hr]; rfl
    · have hr : ∀ m', m' ≤ m + 1 → r.filter (fun y => decide (v y < m')) = [] := fun m' hm' => by
        rw [List.filter_eq_nil_iff]; intro y hy; have := h1 y hy; simp; omega
      have hr2 : r.filter (fun y => decide (v y = m)) = [] := by
        rw [List.filter_eq_nil_iff]; intro y hy; have := h1 y hy; simp; omega
      rw [List.filter_cons, List.filter_cons, List.filter_cons, if_neg (by simp; omega), if_neg (by simp; omega), if_neg (by simp; omega), hr _ (Int.le_refl _), hr _ (by omega), hr2]; rfl
/-- the first j levels from lo on -/
def lvls (b : List Int) (lo : Int) : Nat → List Int
  | 0 => []
  | j + 1 => lvls b lo j ++ b.filter (fun y => decide (v y = lo + (j : Int)))
theorem lvls_eq (b : List Int) (lo : Int) (hlo : ∀ y, y ∈ b → lo ≤ v y) : ∀ j : Nat, lvls v b lo j = (sortP v b).filter (fun y => decide (v y < lo + (j : Int)))
  | 0 => by
    symm
    rw [lvls, List.filter_eq_nil_iff]
    intro y hy
    have := hlo y ((sortP_perm v b).mem_iff.1 hy)
    simp; omega
  | j + 1 => by
    rw [lvls, lvls_eq b lo hlo j, ← sortP_level v b, ← split_level v (sortP_pair v b)]
    rw [show lo + ((j + 1 : Nat) : Int) = lo + (j : Int) + 1 by omega]
theorem lvls_all (b : List Int) (lo : Int) (hlo : ∀ y, y ∈ b → lo ≤ v y) {j : Nat} (hhi : ∀ y, y ∈ b → v y < lo + (j : Int)) : lvls v b lo j = sortP v b := by
  rw [lvls_eq v b lo hlo, List.filter_eq_self]
  intro y hy
  simpa using hhi y ((sortP_perm v b).mem_iff.1 hy)
end
end Go.E

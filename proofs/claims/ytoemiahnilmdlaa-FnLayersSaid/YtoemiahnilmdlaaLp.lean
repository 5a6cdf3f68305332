/-
  Plain laws: layers hold each item once, chains go through all layers before. Conditions: as stated.
-/
import Derived.Test.YtoemiahnilmdlaaY9
import Derived.Test.YtoemiahnilmdlaaY0
import Derived.Test.YtoemiahnilmdlaaPb
set_option linter.unusedVariables false
set_option linter.unusedSimpArgs false
namespace Go.E
open Go Go.RowKit Go.Proofs
theorem lay_mem {L : List Itm} {e : List Nod} {i k : Nat} (hi : i < (layersOf L e).length) (hk : k < (gi (layersOf L e) (i : Int)).length) : lyr (layersOf L e) (gi (gi (layersOf L e) (i : Int)) (k : Int)) = i := by
  have h := lay_at hi (gi (gi (layersOf L e) (i : Int)) (k : Int))
  have h2 : hasI (gi (layersOf L e) (i : Int)) (gi (gi (layersOf L e) (i : Int)) (k : Int)) = true := by
    rw [hasI_iff, gi_lt hk]; exact List.getElem_mem _
  rw [h2] at h
  simpa using h.symm
theorem lay_found {L : List Itm} {e : List Nod} {y : Int} (h : 0 ≤ lyr (layersOf L e) y) : fine L e = true ∧ 0 ≤ findI L y := by
  cases hf : fine L e with
  | false => have := lyr_no (L := L) (e := e) (id := y) (.inl hf); omega
  | true =>
    by_cases h0 : 0 ≤ findI L y
    · exact ⟨rfl, h0⟩
    · have := lyr_no (L := L) (e := e) (id := y) (.inr h0); omega
theorem chainN_at (L : List Itm) (e : List Nod) : ∀ (k i : Nat) (acc : List Int) (t : Nat), gi (chainN L e k i acc) ((k + t : Nat) : Int) = gi acc (t : Int) := by
  intro k
  induction k with
  | zero => intro i acc t; rw [chainN_zero, Nat.zero_add]
  | succ k ih =>
    intro i acc t
    rw [chainN, show k + 1 + t = k + (t + 1) by omega, ih, gi_consS]
/-- a chain: each is dominated by the one before it, and the first one lies in the first layer -/
structure Chn (L : List Itm) (e : List Nod) (c : List Int) : Prop where
  top : lyr (layersOf L e) (gi c ((0 : Nat) : Int)) = 0
  dom : ∀ j : Nat, j + 1 < c.length → hasI (relL L e (gi c ((j + 1 : Nat) : Int)) 1) (gi c (j : Int)) = true
theorem chainN_ok {L : List Itm} {e : List Nod} (h : fine L e = true) : ∀ (k i : Nat) (acc : List Int), i < L.length → lyr (layersOf L e) (gi L (i : Int)).id = (k : Int) → gi acc ((0 : Nat) : Int) = (gi L (i : Int)).id →
    (∀ j : Nat, j + 1 < acc.length → hasI (relL L e (gi acc ((j + 1 : Nat) : Int)) 1) (gi acc (j : Int)) = true) → Chn L e (chainN L e k i acc) := by
  intro k
  induction k with
  | zero =>
    intro i acc hi hl h0 hd
    rw [chainN_zero]
    exact ⟨by rw [h0]; exact hl, hd⟩
  | succ k ih =>
    intro i acc hi hl h0 hd
    rcases idxB_cases L.length (nextAt L e i k) with ⟨_, hn⟩ | ⟨j, _, hj, h1, ha⟩
    · exact absurd hn (next_ex h hi hl)
    · rw [chain_next hj ha h1]
      have h2 := h1
      simp only [nextAt, Bool.and_eq_true, decide_eq_true_eq] at h2
      refine ih j _ hj h2.2 (gi_cons0 _ _) fun m hm => ?_
      cases m with
      | zero =>
        rw [gi_cons0, gi_consS, h0, hasI_iff, rel_at h hi]
        exact mem_pickN hj (by simp [h2.1])
      | succ m =>
        rw [gi_consS, gi_consS]
        exact hd m (by simpa using hm)
theorem chain_ok {L : List Itm} {e : List Nod} {y : Int} {i : Nat} (hy : lyr (layersOf L e) y = (i : Int)) : Chn L e (chainTo L e y) ∧ (chainTo L e y).length = i + 1 ∧ gi (chainTo L e y) (i : Int) = y := by
  obtain ⟨hf, h0⟩ := lay_found (L := L) (e := e) (y := y) (by omega)
  have hid := findI_id h0
  have hlt : findI L y < L.length := by
    unfold findI at h0 ⊢
    rcases idxB_cases L.length (fun i => decide ((gi L (i : Int)).id = y)) with ⟨h1, _⟩ | ⟨j, h1, h2, _⟩
    · rw [h1] at h0; omega
    · rw [h1]; omega
  obtain ⟨m, hm⟩ : ∃ m : Nat, findI L y = (m : Int) := ⟨(findI L y).toNat, by omega⟩
  rw [hm] at hid hlt
  have e1 : chainTo L e y = chainN L e i m [y] := by
    rw [chainTo, if_pos (by simp [hf, h0]), hm, hy]; rfl
  rw [e1]
  refine ⟨chainN_ok hf i m [y] (by omega) (by rw [hid]; exact hy) (by rw [hid]; rfl) (fun j hj => by simp at hj), by rw [chainN_len]; rfl, ?_⟩
  exact chainN_at L e i m [y] 0
theorem pickN_count {L : List Itm} {p : Nat → Bool} {q : Itm → Bool} : ∀ n : Nat, n ≤ L.length → (∀ i, i < n → p i = q (gi L (i : Int))) → (pickN L p n).length = ((L.take n).filter q).length := by
  intro n
  induction n with
  | zero => intro _ _; simp [pickN]
  | succ n ih =>
    intro hn h
    have ih := ih (by omega) fun i hi => h i (by omega)
    rw [take_gi (by omega), List.filter_append, List.length_append, ← ih, pickN, List.length_append, h n (by omega)]
    cases hq : q (gi L (n : Int)) <;> simp [hq]
theorem best_only {M : List Itm} {e : List Nod} (hM : IdInj M) : (bestL M e).length + (only (bestL M e) false M).length = M.length := by
  have h1 : (bestL M e).length = (M.filter fun x => hasI (bestL M e) x.id).length := by
    have := pickN_count (L := M) (p := unbeaten M e) (q := fun x => hasI (bestL M e) x.id) M.length (Nat.le_refl _) fun i hi => by
      have hm := giM_mem hi
      have hb := best_iff (e := e) hM hm
      rw [Bool.eq_iff_iff, hasI_iff, hb]
      constructor
      · intro hu y hy
        obtain ⟨j, hj, rfl⟩ := mem_gi hy
        have := List.all_eq_true.1 hu j (by simpa using hj)
        simpa using this
      · intro ha
        exact List.all_eq_true.2 fun j hj => by
          simp at hj
          simpa using ha _ (giM_mem hj)
    rw [List.take_length] at this
    exact this
  have h2 : (only (bestL M e) false M).length = (M.filter fun x => !hasI (bestL M e) x.id).length := by
    unfold only
    congr 1
    apply List.filter_congr
    intro x _
    cases hasI (bestL M e) x.id <;> rfl
  rw [h1, h2]
  have h3 := List.length_eq_countP_add_countP (fun x : Itm => hasI (bestL M e) x.id) (l := M)
  rw [List.countP_eq_length_filter, List.countP_eq_length_filter] at h3
  have h4 : (M.filter fun x => decide ¬ (hasI (bestL M e) x.id = true)) = M.filter fun x => !hasI (bestL M e) x.id := by
    apply List.filter_congr
    intro x _
    cases hasI (bestL M e) x.id <;> rfl
  rw [h4] at h3
  omega
theorem lays_all (e : List Nod) (hex : isExpr e = true) : ∀ (n : Nat) (M : List Itm), IdInj M → M.length ≤ n → totL (lays e n M) = M.length := by
  intro n
  induction n with
  | zero =>
    intro M _ h
    have : M.length = 0 := by omega
    rw [this]; rfl
  | succ n ih =>
    intro M hM h
    by_cases hz : M.length = 0
    · rw [lays, if_pos hz, hz]; rfl
    · rw [lays_succ hz, totL]
      have h1 := best_only (e := e) hM
      have h2 := best_less hex (L := M) (by omega)
      rw [ih _ (only_inj hM) (by omega)]
      omega
theorem layers_all {L : List Itm} {e : List Nod} (h : fine L e = true) : totL (layersOf L e) = L.length := by
  obtain ⟨h1, h2, _⟩ := fine_parts h
  rw [layersOf, if_pos h]
  exact lays_all e h2 _ _ h1 (Nat.le_refl _)
theorem totL_take {X : List (List Int)} {k : Nat} (h : k < X.length) : totL (X.take (k + 1)) = totL (X.take k) + (gi X (k : Int)).length := by
  rw [take_gi h, totL_append]; simp [totL]
theorem totL_take_le (X : List (List Int)) (k : Nat) : totL (X.take k) ≤ totL X := by
  have := totL_append (X.take k) (X.drop k)
  rw [List.take_append_drop] at this
  omega
end Go.E

/-
  Plain laws: the best items, what dominates them, and the width. Conditions: as stated.
-/
import Derived.Test.YtoemiahnilmdlaaY7
set_option linter.unusedVariables false
set_option linter.unusedSimpArgs false
namespace Go.E
open Go Go.RowKit Go.Proofs
/-- above each beaten item stands one that nothing beats -/
theorem top_above {f : Itm → Itm → Int} (hf : Ord3 f) {M : List Itm} {x y : Itm} (hy : y ∈ M) (hc : f y x = 1) : ∃ z, z ∈ M ∧ f z x = 1 ∧ ∀ u, u ∈ M → f u z ≠ 1 := by
  have hD : y ∈ M.filter fun z => decide (f z x = 1) := List.mem_filter.2 ⟨hy, by simp [hc]⟩
  obtain ⟨i, hi, ha⟩ := top_some hf (M.filter fun z => decide (f z x = 1)) _ (List.length_pos_of_mem hD)
  have hz := giM_mem hi
  have hz2 := List.mem_filter.1 hz
  have hzx : f (gi (M.filter fun z => decide (f z x = 1)) (i : Int)) x = 1 := by simpa using hz2.2
  refine ⟨_, hz2.1, hzx, fun u hu hb => ?_⟩
  have := hf.trans _ _ _ (.inr hb) (.inr hzx)
  rw [hb, hzx] at this
  obtain ⟨j, hj, hju⟩ := mem_gi (M := M.filter fun z => decide (f z x = 1)) (x := u) (List.mem_filter.2 ⟨hu, by simp; exact this⟩)
  exact ha j hj (by rw [hju]; exact hb)
theorem rel_gen {L : List Itm} {e : List Nod} (h : fine L e = true) {x : Itm} (hx : x ∈ L) (c : Int) : relL L e x.id c = pickN L (fun j => decide (cmpE e (gi L (j : Int)) x = c)) L.length := by
  have hf := h
  simp only [fine, Bool.and_eq_true] at hf
  rw [relL, if_pos (by simp [h, find_nn hx]), find_gi (areItems_inj hf.1) hx]
theorem rel_mem {L : List Itm} {e : List Nod} (h : fine L e = true) {x : Itm} (hx : x ∈ L) {c y : Int} : y ∈ relL L e x.id c ↔ ∃ z, z ∈ L ∧ z.id = y ∧ cmpE e z x = c := by
  rw [rel_gen h hx]
  constructor
  · intro hm
    obtain ⟨i, hi, hp, he⟩ := pickN_mem hm
    exact ⟨_, giM_mem hi, he, by simpa using hp⟩
  · rintro ⟨z, hz, rfl, hc⟩
    obtain ⟨i, hi, rfl⟩ := mem_gi hz
    exact mem_pickN hi (by simp [hc])
theorem at_id {L : List Itm} {id : Int} (h0 : 0 ≤ findI L id) : ∃ x, x ∈ L ∧ x.id = id := ⟨_, gz_mem h0 (findI_lt _ _), findI_id h0⟩
theorem bestItems_fine {L : List Itm} {e : List Nod} (h : fine L e = true) : bestItems L e = bestL L e := by rw [bestItems, if_pos h]
theorem fine_parts {L : List Itm} {e : List Nod} (h : fine L e = true) : IdInj L ∧ isExpr e = true ∧ areItems L = true := by
  have hf := h
  simp only [fine, Bool.and_eq_true] at hf
  exact ⟨areItems_inj hf.1, hf.2, hf.1⟩
theorem fb_some {L : List Itm} {e : List Nod} {id : Int} (h : fine L e = true) (h0 : 0 ≤ findI L id) (hn : (relL L e id 1).length ≠ 0) : ∃ i : Nat, i < (relL L e id 1).length ∧ hasI (bestItems L e) (gi (relL L e id 1) (i : Int)) = true := by
  obtain ⟨x, hx, rfl⟩ := at_id h0
  obtain ⟨hi, hex, _⟩ := fine_parts h
  have hm : gi (relL L e x.id 1) ((0 : Nat) : Int) ∈ relL L e x.id 1 := by rw [gi_lt (by omega)]; exact List.getElem_mem _
  obtain ⟨y, hy, _, hc⟩ := (rel_mem h hx).1 hm
  obtain ⟨z, hz, hzx, ha⟩ := top_above (cmpE_ok hex) hy hc
  have hzm : z.id ∈ relL L e x.id 1 := (rel_mem h hx).2 ⟨z, hz, rfl, hzx⟩
  obtain ⟨i, hi', he⟩ := List.getElem_of_mem hzm
  refine ⟨i, hi', ?_⟩
  rw [gi_lt hi', he, hasI_iff, bestItems_fine h]
  exact (best_iff hi hz).2 ha
theorem fb_dom {L : List Itm} {e : List Nod} {id : Int} (h : fine L e = true) (h0 : 0 ≤ findI L id) {i : Nat} (hi : i < (relL L e id 1).length) : hasI (relL L e (gi (relL L e id 1) (i : Int)) (-1)) id = true := by
  obtain ⟨x, hx, rfl⟩ := at_id h0
  obtain ⟨_, hex, _⟩ := fine_parts h
  have hm : gi (relL L e x.id 1) (i : Int) ∈ relL L e x.id 1 := by rw [gi_lt hi]; exact List.getElem_mem _
  obtain ⟨y, hy, he, hc⟩ := (rel_mem h hx).1 hm
  rw [← he, hasI_iff]
  exact (rel_mem h hy).2 ⟨x, hx, rfl, (flip1 hex y x).1 hc⟩
theorem fb_best {L : List Itm} {e : List Nod} {id : Int} (h : fine L e = true) (h0 : 0 ≤ findI L id) : hasI (bestItems L e) id = decide (((relL L e id 1).length : Int) = 0) := by
  obtain ⟨x, hx, rfl⟩ := at_id h0
  obtain ⟨hi, hex, _⟩ := fine_parts h
  rw [Bool.eq_iff_iff, hasI_iff, bestItems_fine h, best_iff hi hx, decide_eq_true_eq]
  constructor
  · intro ha
    rcases Nat.eq_zero_or_pos (relL L e x.id 1).length with h1 | h1
    · omega
    · exfalso
      have hm : (relL L e x.id 1)[0] ∈ relL L e x.id 1 := List.getElem_mem _
      obtain ⟨y, hy, _, hc⟩ := (rel_mem h hx).1 hm
      exact ha y hy hc
  · intro hz y hy hc
    have : y.id ∈ relL L e x.id 1 := (rel_mem h hx).2 ⟨y, hy, rfl, hc⟩
    have := List.length_pos_of_mem this
    omega
theorem freeN_best {L : List Itm} {e : List Nod} (hex : isExpr e = true) {i : Nat} (hi : i < L.length) (hu : unbeaten L e i = true) : ∀ n : Nat, n ≤ L.length → ((pickN L (unbeaten L e) n).length : Int) ≤ freeN L e i n := by
  intro n
  induction n with
  | zero => intro _; simp [pickN, freeN]
  | succ n ih =>
    intro hn
    have ih := ih (by omega)
    rw [freeN_succ]
    by_cases hp : unbeaten L e n = true
    · rw [pickN_t hp, List.length_append, List.length_cons, List.length_nil]
      have h1 : cmpE e (gi L (i : Int)) (gi L (n : Int)) ≠ 1 := by
        have := List.all_eq_true.1 hp i (by simpa using hi); simpa using this
      have h2 : cmpE e (gi L (n : Int)) (gi L (i : Int)) ≠ 1 := by
        have := List.all_eq_true.1 hu n (by simp; omega); simpa using this
      have h3 := (cmpE_ok hex).rng (gi L (i : Int)) (gi L (n : Int))
      have h4 : cmpE e (gi L (i : Int)) (gi L (n : Int)) ≠ -1 := fun hh => h2 ((flip1 hex _ _).2 hh)
      rw [if_pos (by omega)]; omega
    · rw [pickN_f (by simpa using hp)]
      split <;> omega
theorem widN_ge {L : List Itm} {e : List Nod} {i : Nat} : ∀ n : Nat, i < n → freeN L e i L.length ≤ widN L e n := by
  intro n
  induction n with
  | zero => intro h; omega
  | succ n ih =>
    intro h
    rw [widN_succ]
    rcases Nat.lt_or_ge i n with h1 | h1
    · have := ih h1; omega
    · obtain rfl : i = n := by omega
      omega
theorem widN_nn (L : List Itm) (e : List Nod) : ∀ n : Nat, 0 ≤ widN L e n := by
  intro n
  induction n with
  | zero => simp [widN]
  | succ n ih => rw [widN_succ]; omega
theorem fb_wid {L : List Itm} {e : List Nod} (h : fine L e = true) : ((bestItems L e).length : Int) ≤ width L e := by
  obtain ⟨hi, hex, _⟩ := fine_parts h
  rw [bestItems_fine h, width, if_pos h]
  by_cases h0 : (bestL L e).length = 0
  · rw [h0]; exact widN_nn L e _
  · have hm : (bestL L e)[0]'(by omega) ∈ bestL L e := List.getElem_mem _
    obtain ⟨i, hi', hu, _⟩ := pickN_mem hm
    have h1 := freeN_best hex hi' hu L.length (Nat.le_refl _)
    have h2 := widN_ge (L := L) (e := e) L.length hi'
    rw [bestL]; omega
def fbN (best d : List Int) : Nat → Bool
  | 0 => decide ((d.length : Int) = 0)
  | k + 1 => fbN best d k || hasI best (gi d (k : Int))
theorem fbN_hit {best d : List Int} {i : Nat} (h : hasI best (gi d (i : Int)) = true) : ∀ n, i < n → fbN best d n = true := by
  intro n
  induction n with
  | zero => intro h; omega
  | succ n ih =>
    intro hn
    rcases Nat.lt_or_ge i n with h1 | h1
    · simp [fbN, ih h1]
    · obtain rfl : i = n := by omega
      simp [fbN, h]
theorem fbN_zero {best d : List Int} (h : d.length = 0) : ∀ n, fbN best d n = true := by
  intro n
  induction n with
  | zero => simp [fbN, h]
  | succ n ih => simp [fbN, ih]
theorem fb_all {L : List Itm} {e : List Nod} {id : Int} (h : fine L e = true) (h0 : 0 ≤ findI L id) : fbN (bestItems L e) (relL L e id 1) (relL L e id 1).length = true := by
  by_cases hn : (relL L e id 1).length = 0
  · exact fbN_zero hn _
  · obtain ⟨i, hi, hh⟩ := fb_some h h0 hn
    exact fbN_hit hh _ hi
end Go.E

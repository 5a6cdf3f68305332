/-
  Contracts: the layers of items by an order. Conditions: as stated.
-/
import Derived.Test.YtdenoambgonomaaGreatX2
import Derived.Test.YtdenoambgonomaaGreatY5
set_option linter.unusedVariables false
set_option linter.unusedSimpArgs false
namespace Go.E
open Go Go.RowKit Go.Proofs
theorem top_some {f : Itm → Itm → Int} (hf : Ord3 f) (L : List Itm) : ∀ n : Nat, 0 < n → ∃ i, i < n ∧ ∀ j, j < n → f (gi L (j : Int)) (gi L (i : Int)) ≠ 1 := by
  intro n
  induction n with
  | zero => intro h; omega
  | succ n ih =>
    intro _
    rcases Nat.eq_zero_or_pos n with h0 | h0
    · subst h0
      refine ⟨0, by omega, fun j hj => ?_⟩
      obtain rfl : j = 0 := by omega
      rw [hf.refl]; decide
    · obtain ⟨i, hi, ha⟩ := ih h0
      by_cases h1 : f (gi L (n : Int)) (gi L (i : Int)) = 1
      · refine ⟨n, by omega, fun j hj hb => ?_⟩
        rcases Nat.lt_or_ge j n with hj1 | hj1
        · have := hf.trans _ _ _ (.inr hb) (.inr h1)
          rw [hb, h1] at this
          exact ha j hj1 this
        · obtain rfl : j = n := by omega
          rw [hf.refl] at hb; cases hb
      · refine ⟨i, by omega, fun j hj => ?_⟩
        rcases Nat.lt_or_ge j n with hj1 | hj1
        · exact ha j hj1
        · obtain rfl : j = n := by omega
          exact h1
theorem mem_pickN {L : List Itm} {p : Nat → Bool} : ∀ {n i : Nat}, i < n → p i = true → (gi L (i : Int)).id ∈ pickN L p n := by
  intro n
  induction n with
  | zero => intro i h; omega
  | succ n ih =>
    intro i hi hp
    rw [pickN]
    rcases Nat.lt_or_ge i n with h | h
    · exact List.mem_append_left _ (ih h hp)
    · obtain rfl : i = n := by omega
      rw [if_pos hp]; simp
theorem best_less {L : List Itm} {e : List Nod} (hex : isExpr e = true) (h : 0 < L.length) : (only (bestL L e) false L).length < L.length := by
  obtain ⟨i, hi, ha⟩ := top_some (cmpE_ok hex) L L.length h
  have hu : unbeaten L e i = true := allB_true fun j hj => by simpa using ha j hj
  have hm : (gi L (i : Int)).id ∈ bestL L e := mem_pickN hi hu
  rw [only, List.length_filter_lt_length_iff_exists]
  refine ⟨gi L (i : Int), by rw [gi_lt hi]; exact List.getElem_mem _, ?_⟩
  rw [hasI_iff.2 hm]; decide
theorem only_mem {ids : List Int} {q : Bool} {L : List Itm} {x : Itm} (h : x ∈ only ids q L) : x ∈ L := (List.mem_filter.1 h).1
def lays (e : List Nod) : Nat → List Itm → List (List Int)
  | 0, _ => []
  | n + 1, M => if M.length = 0 then [] else bestL M e :: lays e n (only (bestL M e) false M)
theorem lays_nil (e : List Nod) (n : Nat) : lays e n [] = [] := by cases n <;> rfl
theorem lays_succ {e : List Nod} {n : Nat} {M : List Itm} (h : M.length ≠ 0) : lays e (n + 1) M = bestL M e :: lays e n (only (bestL M e) false M) := by rw [lays, if_neg h]
theorem lays_tot (e : List Nod) : ∀ (n : Nat) (M : List Itm), totL (lays e n M) ≤ n * M.length := by
  intro n
  induction n with
  | zero => intro M; simp [lays, totL]
  | succ n ih =>
    intro M
    rw [lays]
    split
    · simp [totL]
    · have h1 := ih (only (bestL M e) false M)
      have h2 := only_len (bestL M e) false M
      have h3 := bestL_len M e
      have h4 := Nat.mul_le_mul (Nat.le_refl n) h2
      have h5 : (n + 1) * M.length = n * M.length + M.length := by rw [Nat.add_mul, Nat.one_mul]
      simp only [totL]; omega
def layersOf (L : List Itm) (e : List Nod) : List (List Int) := if fine L e then lays e L.length L else []
theorem layersOf_tot (L : List Itm) (e : List Nod) : totL (layersOf L e) ≤ 256 := by
  unfold layersOf
  split
  · rename_i h
    have h1 := lays_tot e L.length L
    have h2 := (fine_ok h).2.1
    have h3 := Nat.mul_le_mul h2 h2
    omega
  · simp [totL]
/-- where the layers stand: acc is done, M is left -/
def Lay (L : List Itm) (e : List Nod) (M : List Itm) (acc : List (List Int)) : Prop :=
  (∀ x, x ∈ M → isItem x = true) ∧ M.length + acc.length ≤ L.length ∧ acc ++ lays e (L.length - acc.length) M = lays e L.length L
theorem Lay.start {L : List Itm} {e : List Nod} (h : fine L e = true) : Lay L e L [] := by
  have hk := (fine_ok h).1
  refine ⟨fun x hx => ?_, by simp, by simp⟩
  obtain ⟨i, hi, rfl⟩ := List.getElem_of_mem hx
  rw [← gi_lt hi]; exact hk i hi
theorem Lay.step {L M : List Itm} {e : List Nod} {acc : List (List Int)} (h : Lay L e M acc) (hex : isExpr e = true) (hm : 0 < M.length) : Lay L e (only (bestL M e) false M) (acc ++ [bestL M e]) := by
  obtain ⟨h1, h2, h3⟩ := h
  have hl := best_less hex hm
  refine ⟨fun x hx => h1 x (only_mem hx), by rw [List.length_append]; simp only [List.length_cons, List.length_nil]; omega, ?_⟩
  rw [← h3]
  obtain ⟨d, hd⟩ : ∃ d, L.length - acc.length = d + 1 := ⟨L.length - acc.length - 1, by omega⟩
  rw [hd, lays_succ (by omega), List.append_assoc, List.length_append]
  simp only [List.length_cons, List.length_nil]
  rw [show L.length - (acc.length + (0 + 1)) = d by omega]; rfl
theorem Lay.stop {L M : List Itm} {e : List Nod} {acc : List (List Int)} (h : Lay L e M acc) (hm : M.length = 0) : acc = lays e L.length L := by
  obtain rfl := List.eq_nil_of_length_eq_zero hm
  have := h.2.2
  rwa [lays_nil, List.append_nil] at this
theorem Lay.at_ {L M : List Itm} {e : List Nod} {acc : List (List Int)} (h : Lay L e M acc) : ∀ i : Nat, i < M.length → isItem (gi M (i : Int)) = true := fun i hi => by
  rw [gi_lt hi]; exact h.1 _ (List.getElem_mem _)
attribute [local irreducible] W WL WD WE thenE inE retQ PureOp Keep Cell Cells Blk Sl Rows Own Src Fresh
attribute [local irreducible] only hasI bestL cmpE isExpr areItems fine lays Lay

end Go.E

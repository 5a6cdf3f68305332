/-
  Plain laws: regret over more items, the smallest set with a regret. Conditions: as stated.
-/
import Derived.Test.YtoemiahnilmdlaaSm
import Derived.Test.YtoemiahnilmdlaaRd
import Derived.Test.YtoemiahnilmdlaaFi
set_option linter.unusedVariables false
set_option linter.unusedSimpArgs false
namespace Go.E
open Go Go.RowKit Go.Proofs
def lossW (L : List Itm) (ids : List Int) (ws : List Int) : Int := bestUtil L (idsOf L) ws - bestUtil L ids ws
/-- where the stated regret comes from -/
def RegAt (L : List Itm) (ids : List Int) (n : Nat) (s : Int × Int × List Int) : Prop :=
  (s = (0, 1, [])) ∨ ∃ j, j < n ∧ s = (lossW L ids (gi weightLists (j : Int)), bestUtil L (idsOf L) (gi weightLists (j : Int)), gi weightLists (j : Int))
theorem regSt_at (L : List Itm) (ids : List Int) : ∀ n : Nat, RegAt L ids n (regSt L ids n)
  | 0 => .inl rfl
  | n + 1 => by
    rw [regSt_succ]
    split
    · exact .inr ⟨n, by omega, rfl⟩
    · rcases regSt_at L ids n with h | ⟨j, hj, h⟩
      · exact .inl h
      · exact .inr ⟨j, by omega, h⟩
theorem regSt_max (L : List Itm) (ids : List Int) : ∀ n i : Nat, i < n → lossW L ids (gi weightLists (i : Int)) * (regSt L ids n).2.1 ≤ (regSt L ids n).1 * bestUtil L (idsOf L) (gi weightLists (i : Int)) := by
  intro n
  induction n with
  | zero => intro i hi; omega
  | succ n ih =>
    intro i hi
    have hd := (regSt_bd L ids n).2.1
    have hb := bestUtil_bd L (idsOf L) (gi weightLists (i : Int))
    have hbn := bestUtil_bd L (idsOf L) (gi weightLists (n : Int))
    rw [regSt_succ]
    split
    · rename_i hgt
      dsimp only
      rcases Nat.lt_or_ge i n with h | h
      · have h1 := ih i h
        change lossW L ids (gi weightLists (n : Int)) * _ > _ at hgt
        change _ ≤ lossW L ids (gi weightLists (n : Int)) * _
        generalize lossW L ids (gi weightLists (i : Int)) = li at *
        generalize lossW L ids (gi weightLists (n : Int)) = ln at *
        generalize bestUtil L (idsOf L) (gi weightLists (i : Int)) = bi at *
        generalize bestUtil L (idsOf L) (gi weightLists (n : Int)) = bn at *
        generalize (regSt L ids n).2.1 = d at *
        generalize (regSt L ids n).1 = m at *
        have h2 : li * d * bn ≤ m * bi * bn := Int.mul_le_mul_of_nonneg_right h1 hbn.1
        have h3 : m * bn * bi ≤ ln * d * bi := Int.mul_le_mul_of_nonneg_right (Int.le_of_lt hgt) hb.1
        refine Int.le_of_mul_le_mul_right (a := d) ?_ (by omega)
        calc li * bn * d = li * d * bn := by rw [Int.mul_assoc, Int.mul_comm bn d, ← Int.mul_assoc]
          _ ≤ m * bi * bn := h2
          _ = m * bn * bi := by rw [Int.mul_assoc, Int.mul_comm bi bn, ← Int.mul_assoc]
          _ ≤ ln * d * bi := h3
          _ = ln * bi * d := by rw [Int.mul_assoc, Int.mul_comm d bi, ← Int.mul_assoc]
      · obtain rfl : i = n := by omega
        exact Int.le_refl _
    · rename_i hle
      rcases Nat.lt_or_ge i n with h | h
      · exact ih i h
      · obtain rfl : i = n := by omega
        exact Int.not_lt.1 hle
theorem bestU_mono {L : List Itm} {ids ids' ws : List Int} (h : ∀ x, hasI ids x = true → hasI ids' x = true) : ∀ n, bestU L ids ws n ≤ bestU L ids' ws n
  | 0 => Int.le_refl _
  | n + 1 => by
    have ih := bestU_mono (L := L) (ws := ws) h n
    simp only [bestU]
    split
    · rename_i h1
      rw [if_pos (h _ h1)]
      omega
    · split <;> omega
theorem known_iff {L : List Itm} {ids : List Int} : areKnown L ids = true ↔ ∀ x, x ∈ ids → 0 ≤ findI L x := by
  unfold areKnown
  constructor
  · intro h x hx
    obtain ⟨i, hi, rfl⟩ := List.getElem_of_mem hx
    have := List.all_eq_true.1 h i (by simpa using hi)
    rw [gi_lt hi] at this
    simpa using this
  · intro h
    exact allB_true fun i hi => by simpa using h _ (by rw [gi_lt hi]; exact List.getElem_mem _)
theorem findI_mem {L : List Itm} {y : Int} : 0 ≤ findI L y ↔ y ∈ idsOf L := by
  constructor
  · intro h
    have h1 := findI_id h
    have hlt : findI L y < L.length := by
      unfold findI at h ⊢
      rcases idxB_cases L.length (fun i => decide ((gi L (i : Int)).id = y)) with ⟨h1, _⟩ | ⟨j, h1, h2, _⟩
      · rw [h1] at h; omega
      · rw [h1]; omega
    rw [← h1]
    exact List.mem_map.2 ⟨_, gz_mem h hlt, rfl⟩
  · intro h
    obtain ⟨x, hx, rfl⟩ := List.mem_map.1 h
    exact find_nn hx
theorem regret_mono {L : List Itm} {ids : List Int} {x : Int} (hi : areItems L = true) (hk : areKnown L ids = true) :
    (regret L (ids ++ [x])).1 * (regret L ids).2.1 ≤ (regret L ids).1 * (regret L (ids ++ [x])).2.1 := by
  have h1 := regret_bd L ids
  have hR : regret L ids = regSt L ids 63 := by rw [regret, if_pos (by simp [hi, hk])]
  rw [hR] at h1 ⊢
  unfold regret
  split
  · rcases regSt_at L (ids ++ [x]) 63 with h | ⟨j, hj, h⟩
    · rw [h]; dsimp only; omega
    · rw [h]; dsimp only
      have h2 := regSt_max L ids 63 j hj
      have h3 : lossW L (ids ++ [x]) (gi weightLists (j : Int)) ≤ lossW L ids (gi weightLists (j : Int)) := by
        have := bestU_mono (L := L) (ids := ids) (ids' := ids ++ [x]) (ws := gi weightLists (j : Int)) (fun y hy => by rw [hasI_iff] at hy ⊢; exact List.mem_append_left _ hy) L.length
        unfold lossW bestUtil; omega
      exact Int.le_trans (Int.mul_le_mul_of_nonneg_right h3 (by omega)) h2
  · dsimp only; omega
theorem wl_len3 : ∀ i : Nat, i < 63 → (gi weightLists (i : Int)).length = 3 := by
  intro i hi
  have h : weightLists.all (fun x => decide (x.length = 3)) = true := by decide
  rw [gi_lt (by rw [wls_len]; exact hi)]
  simpa using List.all_eq_true.1 h _ (List.getElem_mem _)
theorem regret_max {L : List Itm} {ids : List Int} (hi : areItems L = true) (hk : areKnown L ids = true) {i : Nat} (h63 : i < 63) :
    (bestUtil L (idsOf L) (gi weightLists (i : Int)) - bestUtil L ids (gi weightLists (i : Int))) * (regret L ids).2.1 ≤ (regret L ids).1 * bestUtil L (idsOf L) (gi weightLists (i : Int)) := by
  unfold regret
  rw [if_pos (by simp [hi, hk])]
  exact regSt_max L ids 63 i h63
theorem regret_worst {L : List Itm} {ids : List Int} (hi : areItems L = true) (hk : areKnown L ids = true) {i : Nat} (h63 : i < 63) (he : gi weightLists (i : Int) = (regret L ids).2.2) :
    (bestUtil L (idsOf L) (gi weightLists (i : Int)) - bestUtil L ids (gi weightLists (i : Int))) * (regret L ids).2.1 = (regret L ids).1 * bestUtil L (idsOf L) (gi weightLists (i : Int)) := by
  unfold regret at he ⊢
  rw [if_pos (by simp [hi, hk])] at he ⊢
  rcases regSt_at L ids 63 with h | ⟨j, hj, h⟩
  · rw [h] at he
    have := wl_len3 i h63
    rw [he] at this; cases this
  · rw [h] at he ⊢
    dsimp only at he ⊢
    rw [he]; rfl
theorem ids_asc {L : List Itm} (h : areItems L = true) : (idsOf L).Pairwise (· < ·) := by
  rw [List.pairwise_iff_getElem]
  intro i j hi hj hij
  simp only [idsOf, List.getElem_map]
  rw [idsOf_len] at hi hj
  have := id_lt h hij hj
  rwa [gi_lt hi, gi_lt hj] at this
def okSet (L : List Itm) (p q : Int) (ids : List Int) : Bool := decide ((regret L ids).1 * q ≤ p * (regret L ids).2.1)
def smOk (L : List Itm) (p q : Int) : Bool := areItems L && decide (L.length ≤ 8) && inR q 1 100 && inR p 0 q
def smallest (L : List Itm) (p q : Int) : Option (List Int) := if smOk L p q then bestM (okSet L p q) (idsOf L) (2 ^ L.length) else none
theorem smOk_parts {L : List Itm} {p q : Int} (h : smOk L p q = true) : areItems L = true ∧ L.length ≤ 8 ∧ (1 ≤ q ∧ q ≤ 100) ∧ 0 ≤ p ∧ p ≤ q := by
  simp only [smOk, Bool.and_eq_true, decide_eq_true_eq, inR] at h
  exact ⟨h.1.1.1, h.1.1.2, h.1.2, h.2⟩
theorem smallest_f {L : List Itm} {p q : Int} (h : smOk L p q = true) : smallest L p q = smallF (okSet L p q) (idsOf L) (L.length + 1) 0 := by
  rw [smallest, if_pos h, ← idsOf_len L]
  exact small_best _ (ids_asc (smOk_parts h).1)
theorem smallest_min {L : List Itm} {p q : Int} {t : List Int} (h : smallest L p q = some t) : smOk L p q = true ∧ t.Sublist (idsOf L) ∧ okSet L p q t = true ∧ ∀ u, u.Sublist (idsOf L) → okSet L p q u = true → lessL u t = false := by
  unfold smallest at h
  split at h
  · rename_i hg
    have hm := bestM_min (okSet L p q) (idsOf L)
    rw [idsOf_len, h] at hm
    exact ⟨hg, hm.1, hm.2.1, hm.2.2⟩
  · cases h
theorem smallest_len {L : List Itm} {p q : Int} : ((smallest L p q).getD []).length ≤ 8 := by
  cases h : smallest L p q with
  | none => simp
  | some t =>
    obtain ⟨h1, h2, _⟩ := smallest_min h
    have := h2.length_le
    rw [idsOf_len] at this
    have := (smOk_parts h1).2.1
    simp only [Option.getD_some]; omega
theorem smallest_spare {L : List Itm} {p q : Int} {t : List Int} (h : smallest L p q = some t) {i : Nat} (hi : i < t.length) : okSet L p q (t.take i ++ t.drop (i + 1)) = false := by
  obtain ⟨h1, h2, h3, h4⟩ := smallest_min h
  cases hk : okSet L p q (t.take i ++ t.drop (i + 1)) with
  | false => rfl
  | true =>
    have hs : (t.take i ++ t.drop (i + 1)).Sublist t := by
      have := List.Sublist.append (List.Sublist.refl (t.take i)) (List.drop_sublist 1 (t.drop i))
      rwa [List.drop_drop, List.take_append_drop] at this
    have := h4 _ (hs.trans h2) hk
    rw [lessL, if_neg (by simp only [List.length_append, List.length_take, List.length_drop]; omega)] at this
    simp only [List.length_append, List.length_take, List.length_drop, decide_eq_false_iff_not] at this
    omega
end Go.E

/-
  Plain facts: in which layer an item lies. Conditions: as stated.
-/
import Derived.Test.YtoemiahnilmdlaaY6
import Derived.Test.YtoemiahnilmdlaaFi
set_option linter.unusedVariables false
set_option linter.unusedSimpArgs false
namespace Go.E
open Go Go.RowKit Go.Proofs
theorem best_iff {M : List Itm} {e : List Nod} {x : Itm} (hM : IdInj M) (hx : x ∈ M) : x.id ∈ bestL M e ↔ ∀ y, y ∈ M → cmpE e y x ≠ 1 := by
  obtain ⟨k, hk, rfl⟩ := mem_gi hx
  constructor
  · intro h y hy
    obtain ⟨i, hi, hu, he⟩ := pickN_mem h
    have hik := hM _ _ (giM_mem hi) hx he
    rw [← hik]
    obtain ⟨j, hj, rfl⟩ := mem_gi hy
    have := List.all_eq_true.1 hu j (by simpa using hj)
    simpa using this
  · intro h
    exact mem_pickN hk (allB_true fun j hj => by simpa using h _ (giM_mem hj))
theorem best_sub {M : List Itm} {e : List Nod} {y : Int} (h : y ∈ bestL M e) : ∃ x, x ∈ M ∧ x.id = y := by
  obtain ⟨i, hi, _, he⟩ := pickN_mem h
  exact ⟨_, giM_mem hi, he⟩
theorem only_iff {ids : List Int} {M : List Itm} {x : Itm} : x ∈ only ids false M ↔ x ∈ M ∧ x.id ∉ ids := by
  rw [only, List.mem_filter]
  constructor
  · rintro ⟨h1, h2⟩
    exact ⟨h1, fun hm => by rw [hasI_iff.2 hm] at h2; cases h2⟩
  · rintro ⟨h1, h2⟩
    refine ⟨h1, ?_⟩
    cases hh : hasI ids x.id with
    | true => exact absurd (hasI_iff.1 hh) h2
    | false => rfl
theorem only_inj {ids : List Int} {M : List Itm} (h : IdInj M) : IdInj (only ids false M) := fun x y hx hy he => h x y (only_iff.1 hx).1 (only_iff.1 hy).1 he
def lyr (ls : List (List Int)) (id : Int) : Int := idxB ls.length fun i => hasI (gi ls (i : Int)) id
theorem gi_cons0 {α : Type} [Inhabited α] (a : α) (r : List α) : gi (a :: r) ((0 : Nat) : Int) = a := by simp [gi]
theorem gi_consS {α : Type} [Inhabited α] (a : α) (r : List α) (i : Nat) : gi (a :: r) ((i + 1 : Nat) : Int) = gi r (i : Int) := by simp [gi]
theorem lyr_nil (id : Int) : lyr [] id = -1 := by rw [lyr, idxB_none]; intro i hi; simp at hi
theorem lyr_t {a : List Int} {r : List (List Int)} {id : Int} (h : id ∈ a) : lyr (a :: r) id = 0 := by
  rw [lyr, idxB_hit (k := 0) (by simp) (fun i hi => absurd hi (by omega))]
  · rfl
  · rw [gi_cons0, hasI_iff.2 h]
theorem lyr_f {a : List Int} {r : List (List Int)} {id : Int} (h : id ∉ a) : lyr (a :: r) id = if lyr r id < 0 then -1 else lyr r id + 1 := by
  have h0 : hasI a id = false := by
    cases hh : hasI a id with
    | true => exact absurd (hasI_iff.1 hh) h
    | false => rfl
  rcases idxB_cases r.length (fun i => hasI (gi r (i : Int)) id) with ⟨h1, h2⟩ | ⟨k, h1, hk, h2, h3⟩
  · have e1 : lyr r id = -1 := h1
    rw [e1, lyr, idxB_none]
    · rfl
    · intro i hi
      cases i with
      | zero => rw [gi_cons0]; exact h0
      | succ i => rw [gi_consS]; exact h2 i (by simpa using hi)
  · have e1 : lyr r id = k := h1
    rw [e1, if_neg (by omega), lyr, idxB_hit (k := k + 1) (by simpa using hk)]
    · omega
    · intro i hi
      cases i with
      | zero => rw [gi_cons0]; exact h0
      | succ i => rw [gi_consS]; exact h3 i (by omega)
    · rw [gi_consS]; exact h2
theorem lyr_lb (ls : List (List Int)) (id : Int) : -1 ≤ lyr ls id ∧ lyr ls id < ls.length := by
  unfold lyr
  rcases idxB_cases ls.length (fun i => hasI (gi ls (i : Int)) id) with ⟨h1, _⟩ | ⟨k, h1, hk, _⟩ <;> omega
theorem lays_len (e : List Nod) : ∀ (n : Nat) (M : List Itm), (lays e n M).length ≤ n := by
  intro n
  induction n with
  | zero => intro M; simp [lays]
  | succ n ih =>
    intro M
    rw [lays]
    split
    · simp
    · simp only [List.length_cons]; have := ih (only (bestL M e) false M); omega
section
variable {e : List Nod} (hex : isExpr e = true)
include hex
theorem lyr_all : ∀ (n : Nat) (M : List Itm), IdInj M → M.length ≤ n → ∀ x, x ∈ M → 0 ≤ lyr (lays e n M) x.id := by
  intro n
  induction n with
  | zero => intro M _ hl x hx; rw [List.eq_nil_of_length_eq_zero (l := M) (by omega)] at hx; cases hx
  | succ n ih =>
    intro M hM hl x hx
    have hp : 0 < M.length := List.length_pos_of_mem hx
    rw [lays_succ (by omega)]
    by_cases hb : x.id ∈ bestL M e
    · rw [lyr_t hb]; omega
    · have := ih _ (only_inj hM) (by have := best_less hex hp; omega) x (only_iff.2 ⟨hx, hb⟩)
      rw [lyr_f hb, if_neg (by omega)]; omega
theorem lyr_lt : ∀ (n : Nat) (M : List Itm), IdInj M → M.length ≤ n → ∀ x y, x ∈ M → y ∈ M → cmpE e y x = 1 → lyr (lays e n M) y.id < lyr (lays e n M) x.id := by
  intro n
  induction n with
  | zero => intro M _ hl x y hx; rw [List.eq_nil_of_length_eq_zero (l := M) (by omega)] at hx; cases hx
  | succ n ih =>
    intro M hM hl x y hx hy hc
    have hp : 0 < M.length := List.length_pos_of_mem hx
    have hless := best_less hex hp
    rw [lays_succ (by omega)]
    have hbx : x.id ∉ bestL M e := fun hb => (best_iff hM hx).1 hb y hy hc
    have hxx := lyr_all hex n _ (only_inj hM) (by omega) x (only_iff.2 ⟨hx, hbx⟩)
    rw [lyr_f hbx, if_neg (by omega)]
    by_cases hby : y.id ∈ bestL M e
    · rw [lyr_t hby]; omega
    · have hyy := lyr_all hex n _ (only_inj hM) (by omega) y (only_iff.2 ⟨hy, hby⟩)
      have := ih _ (only_inj hM) (by omega) x y (only_iff.2 ⟨hx, hbx⟩) (only_iff.2 ⟨hy, hby⟩) hc
      rw [lyr_f hby, if_neg (by omega)]; omega
theorem lyr_ex : ∀ (n : Nat) (M : List Itm), IdInj M → M.length ≤ n → ∀ x, x ∈ M → 0 < lyr (lays e n M) x.id → ∃ y, y ∈ M ∧ cmpE e y x = 1 ∧ lyr (lays e n M) y.id + 1 = lyr (lays e n M) x.id := by
  intro n
  induction n with
  | zero => intro M _ hl x hx; rw [List.eq_nil_of_length_eq_zero (l := M) (by omega)] at hx; cases hx
  | succ n ih =>
    intro M hM hl x hx
    have hp : 0 < M.length := List.length_pos_of_mem hx
    have hless := best_less hex hp
    rw [lays_succ (by omega)]
    by_cases hbx : x.id ∈ bestL M e
    · rw [lyr_t hbx]; intro h; omega
    · have hxm := only_iff.2 ⟨hx, hbx⟩
      have hxx := lyr_all hex n _ (only_inj hM) (by omega) x hxm
      rw [lyr_f hbx, if_neg (by omega)]
      intro _
      rcases Int.lt_or_eq_of_le hxx with h0 | h0
      · obtain ⟨y, hy, hc, he⟩ := ih _ (only_inj hM) (by omega) x hxm h0
        have hy1 := only_iff.1 hy
        have hyy := lyr_all hex n _ (only_inj hM) (by omega) y hy
        exact ⟨y, hy1.1, hc, by rw [lyr_f hy1.2, if_neg (by omega)]; omega⟩
      · have : ¬ ∀ y, y ∈ M → cmpE e y x ≠ 1 := fun h => hbx ((best_iff hM hx).2 h)
        simp only [Classical.not_forall, Classical.not_not] at this
        obtain ⟨y, hy, hc⟩ := this
        by_cases hby : y.id ∈ bestL M e
        · exact ⟨y, hy, hc, by rw [lyr_t hby]; omega⟩
        · have := lyr_lt hex n _ (only_inj hM) (by omega) x y hxm (only_iff.2 ⟨hy, hby⟩) hc
          have hyy := lyr_all hex n _ (only_inj hM) (by omega) y (only_iff.2 ⟨hy, hby⟩)
          omega
end
theorem lays_sub (e : List Nod) : ∀ (n : Nat) (M : List Itm) (k : Nat) (y : Int), y ∈ gi (lays e n M) (k : Int) → ∃ x, x ∈ M ∧ x.id = y := by
  intro n
  induction n with
  | zero => intro M k y h; simp [lays, gi] at h; cases h
  | succ n ih =>
    intro M k y h
    rw [lays] at h
    split at h
    · simp [gi] at h; cases h
    · cases k with
      | zero => rw [gi_cons0] at h; exact best_sub h
      | succ k =>
        rw [gi_consS] at h
        obtain ⟨x, hx, he⟩ := ih _ _ _ h
        exact ⟨x, (only_iff.1 hx).1, he⟩
theorem lyr_at (e : List Nod) : ∀ (n : Nat) (M : List Itm) (k : Nat) (y : Int), y ∈ gi (lays e n M) (k : Int) → lyr (lays e n M) y = k := by
  intro n
  induction n with
  | zero => intro M k y h; simp [lays, gi] at h; cases h
  | succ n ih =>
    intro M k y h
    rw [lays] at h ⊢
    split at h
    · simp [gi] at h; cases h
    · rename_i hne
      rw [if_neg hne]
      cases k with
      | zero => rw [gi_cons0] at h; rw [lyr_t h]; rfl
      | succ k =>
        rw [gi_consS] at h
        have h1 := ih _ _ _ h
        obtain ⟨x, hx, he⟩ := lays_sub e n _ _ _ h
        have h2 := (only_iff.1 hx).2
        rw [he] at h2
        rw [lyr_f h2, h1, if_neg (by omega)]; omega
def mxN (L : List Itm) (e : List Nod) (i : Nat) : Nat → Int
  | 0 => 0
  | n + 1 => if cmpE e (gi L (n : Int)) (gi L (i : Int)) = 1 then max (mxN L e i n) (1 + lyr (layersOf L e) (gi L (n : Int)).id) else mxN L e i n
theorem mxN_succ (L : List Itm) (e : List Nod) (i n : Nat) : mxN L e i (n + 1) = if cmpE e (gi L (n : Int)) (gi L (i : Int)) = 1 then max (mxN L e i n) (1 + lyr (layersOf L e) (gi L (n : Int)).id) else mxN L e i n := rfl
theorem lay_lt {L : List Itm} {e : List Nod} (h : fine L e = true) {i j : Nat} (hi : i < L.length) (hj : j < L.length) (hc : cmpE e (gi L (j : Int)) (gi L (i : Int)) = 1) : lyr (layersOf L e) (gi L (j : Int)).id < lyr (layersOf L e) (gi L (i : Int)).id := by
  have hf := h
  simp only [fine, Bool.and_eq_true] at hf
  rw [layersOf, if_pos h]
  exact lyr_lt hf.2 _ _ (areItems_inj hf.1) (Nat.le_refl _) _ _ (giM_mem hi) (giM_mem hj) hc
theorem lay_nn {L : List Itm} {e : List Nod} (h : fine L e = true) {i : Nat} (hi : i < L.length) : 0 ≤ lyr (layersOf L e) (gi L (i : Int)).id := by
  have hf := h
  simp only [fine, Bool.and_eq_true] at hf
  rw [layersOf, if_pos h]
  exact lyr_all hf.2 _ _ (areItems_inj hf.1) (Nat.le_refl _) _ (giM_mem hi)
theorem lay_ex {L : List Itm} {e : List Nod} (h : fine L e = true) {i : Nat} (hi : i < L.length) (hp : 0 < lyr (layersOf L e) (gi L (i : Int)).id) : ∃ j : Nat, j < L.length ∧ cmpE e (gi L (j : Int)) (gi L (i : Int)) = 1 ∧ lyr (layersOf L e) (gi L (j : Int)).id + 1 = lyr (layersOf L e) (gi L (i : Int)).id := by
  have hf := h
  simp only [fine, Bool.and_eq_true] at hf
  rw [layersOf, if_pos h] at *
  obtain ⟨y, hy, hc, he⟩ := lyr_ex hf.2 _ _ (areItems_inj hf.1) (Nat.le_refl _) _ (giM_mem hi) hp
  obtain ⟨j, hj, rfl⟩ := mem_gi hy
  exact ⟨j, hj, hc, he⟩
theorem lay_ub (L : List Itm) (e : List Nod) (id : Int) : -1 ≤ lyr (layersOf L e) id ∧ lyr (layersOf L e) id < 16 ∨ lyr (layersOf L e) id = -1 := by
  have h1 := lyr_lb (layersOf L e) id
  have h2 : (layersOf L e).length ≤ 16 := by
    unfold layersOf
    split
    · rename_i h; have := lays_len e L.length L; have := (fine_ok h).2.1; omega
    · simp
  omega
theorem mxN_bd {L : List Itm} {e : List Nod} (h : fine L e = true) {i : Nat} (hi : i < L.length) : ∀ n, n ≤ L.length → 0 ≤ mxN L e i n ∧ mxN L e i n ≤ lyr (layersOf L e) (gi L (i : Int)).id := by
  intro n
  induction n with
  | zero => intro _; exact ⟨Int.le_refl _, lay_nn h hi⟩
  | succ n ih =>
    intro hn
    obtain ⟨h1, h2⟩ := ih (by omega)
    rw [mxN_succ]
    split
    · rename_i hc
      have := lay_lt h hi (by omega) hc
      omega
    · exact ⟨h1, h2⟩
theorem mxN_ge {L : List Itm} {e : List Nod} {i j : Nat} (hc : cmpE e (gi L (j : Int)) (gi L (i : Int)) = 1) : ∀ n, j < n → 1 + lyr (layersOf L e) (gi L (j : Int)).id ≤ mxN L e i n := by
  intro n
  induction n with
  | zero => intro h; omega
  | succ n ih =>
    intro hn
    rw [mxN_succ]
    rcases Nat.lt_or_ge j n with hj | hj
    · have := ih hj
      split <;> omega
    · obtain rfl : j = n := by omega
      rw [if_pos hc]; omega
theorem mxN_eq {L : List Itm} {e : List Nod} (h : fine L e = true) {i : Nat} (hi : i < L.length) : mxN L e i L.length = lyr (layersOf L e) (gi L (i : Int)).id := by
  have hb := mxN_bd h hi L.length (Nat.le_refl _)
  rcases Int.lt_or_eq_of_le (lay_nn h hi) with h0 | h0
  · obtain ⟨j, hj, hc, he⟩ := lay_ex h hi h0
    have := mxN_ge (L := L) hc L.length hj
    omega
  · omega
theorem lyr_no {L : List Itm} {e : List Nod} {id : Int} (h : fine L e = false ∨ ¬ 0 ≤ findI L id) : lyr (layersOf L e) id = -1 := by
  rcases h with h | h
  · rw [layersOf, if_neg (by simp [h]), lyr_nil]
  · rw [lyr, idxB_none]
    intro i hi
    cases hh : hasI (gi (layersOf L e) (i : Int)) id with
    | false => rfl
    | true =>
      rw [hasI_iff] at hh
      unfold layersOf at hh
      split at hh
      · obtain ⟨x, hx, he⟩ := lays_sub e _ _ _ _ hh
        exact absurd he (findI_no h x hx)
      · simp [gi] at hh; cases hh
theorem lay_at {L : List Itm} {e : List Nod} {k : Nat} (hk : k < (layersOf L e).length) (y : Int) : hasI (gi (layersOf L e) (k : Int)) y = decide (lyr (layersOf L e) y = k) := by
  cases hh : hasI (gi (layersOf L e) (k : Int)) y with
  | true =>
    rw [hasI_iff] at hh
    have : lyr (layersOf L e) y = k := by
      unfold layersOf at hh ⊢
      split at hh
      · rename_i h; rw [if_pos h]; exact lyr_at e _ _ _ _ hh
      · simp [gi] at hh; cases hh
    rw [decide_eq_true this]
  | false =>
    symm
    rw [decide_eq_false_iff_not]
    intro he
    rcases idxB_cases (layersOf L e).length (fun i => hasI (gi (layersOf L e) (i : Int)) y) with ⟨h1, h2⟩ | ⟨m, h1, hm, h2, h3⟩
    · have e1 : lyr (layersOf L e) y = -1 := h1
      omega
    · have e1 : lyr (layersOf L e) y = m := h1
      obtain rfl : m = k := by omega
      rw [hh] at h2; cases h2
end Go.E

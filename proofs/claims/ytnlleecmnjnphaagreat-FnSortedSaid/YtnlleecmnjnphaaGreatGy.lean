/-
  Several of my texts in one: Y5 Y6 Y7 Pb. Conditions: as stated at each.
-/
import Derived.Test.YtnlleecmnjnphaaGreatX1
import Derived.Test.YtnlleecmnjnphaaGreatL9
import Derived.Test.YtnlleecmnjnphaaGreatAg
import Derived.Test.YtnlleecmnjnphaaGreatX2
import Derived.Test.YtnlleecmnjnphaaGreatFi
set_option linter.unusedVariables false
set_option linter.unusedSimpArgs false
namespace Go.E
open Go Go.RowKit Go.Proofs
def only (ids : List Int) (q : Bool) (L : List Itm) : List Itm := L.filter fun x => hasI ids x.id == q
theorem only_step {ids : List Int} {q : Bool} {L : List Itm} {k : Nat} (h : k < L.length) : only ids q (L.take (k + 1)) = only ids q (L.take k) ++ (if hasI ids (gi L (k : Int)).id == q then [gi L (k : Int)] else []) := by
  rw [take_gi h, only, List.filter_append, List.filter_cons, List.filter_nil]; rfl
theorem only_t {ids : List Int} {q : Bool} {L : List Itm} {k : Nat} (h : k < L.length) (hd : (hasI ids (gi L (k : Int)).id == q) = true) : only ids q (L.take (k + 1)) = only ids q (L.take k) ++ [gi L (k : Int)] := by rw [only_step h, if_pos hd]
theorem only_f {ids : List Int} {q : Bool} {L : List Itm} {k : Nat} (h : k < L.length) (hd : (hasI ids (gi L (k : Int)).id == q) = false) : only ids q (L.take (k + 1)) = only ids q (L.take k) := by rw [only_step h, if_neg (by simp [hd]), List.append_nil]
theorem only_len (ids : List Int) (q : Bool) (L : List Itm) : (only ids q L).length ≤ L.length := List.length_filter_le _ _
theorem only_nil (ids : List Int) (q : Bool) : only ids q [] = [] := rfl
attribute [local irreducible] W WL WD WE thenE inE retQ PureOp Keep Cell Cells Blk Sl Rows Own Src Fresh
attribute [local irreducible] only hasI

end Go.E
set_option linter.unusedVariables false
set_option linter.unusedSimpArgs false
namespace Go.E
open Go Go.RowKit Go.Proofs
theorem top_some {f : Itm → Itm → Int} (hf : Ord3 f) (L : List Itm) : ∀ n : Nat, 0 < n → ∃ i, i < n ∧ ∀ j, j < n → f (gi L (j : Int)) (gi L (i : Int)) ≠ 1 := by
  intro n
  induction n with
  | zero => intro h; omega
  | succ n ih =>
    intro _
    rcases Nat.eq_zero_or_pos n with h0 | h0
    · subst h0
      refine ⟨0, by omega, fun j hj => ?_⟩
      obtain rfl : j = 0 := by omega
      rw [hf.refl]; decide
    · obtain ⟨i, hi, ha⟩ := ih h0
      by_cases h1 : f (gi L (n : Int)) (gi L (i : Int)) = 1
      · refine ⟨n, by omega, fun j hj hb => ?_⟩
        rcases Nat.lt_or_ge j n with hj1 | hj1
        · have := hf.trans _ _ _ (.inr hb) (.inr h1)
          rw [hb, h1] at this
          exact ha j hj1 this
        · obtain rfl : j = n := by omega
          rw [hf.refl] at hb; cases hb
      · refine ⟨i, by omega, fun j hj => ?_⟩
        rcases Nat.lt_or_ge j n with hj1 | hj1
        · exact ha j hj1
        · obtain rfl : j = n := by omega
          exact h1
theorem best_less {L : List Itm} {e : List Nod} (hex : isExpr e = true) (h : 0 < L.length) : (only (bestL L e) false L).length < L.length := by
  obtain ⟨i, hi, ha⟩ := top_some (cmpE_ok hex) L L.length h
  have hu : unbeaten L e i = true := allB_true fun j hj => by simpa using ha j hj
  have hm : (gi L (i : Int)).id ∈ bestL L e := mem_pickN hi hu
  rw [only, List.length_filter_lt_length_iff_exists]
  refine ⟨gi L (i : Int), by rw [gi_lt hi]; exact List.getElem_mem _, ?_⟩
  rw [hasI_iff.2 hm]; decide
theorem only_mem {ids : List Int} {q : Bool} {L : List Itm} {x : Itm} (h : x ∈ only ids q L) : x ∈ L := (List.mem_filter.1 h).1
def lays (e : List Nod) : Nat → List Itm → List (List Int)
  | 0, _ => []
  | n + 1, M => if M.length = 0 then [] else bestL M e :: lays e n (only (bestL M e) false M)
theorem lays_nil (e : List Nod) (n : Nat) : lays e n [] = [] := by cases n <;> rfl
theorem lays_succ {e : List Nod} {n : Nat} {M : List Itm} (h : M.length ≠ 0) : lays e (n + 1) M = bestL M e :: lays e n (only (bestL M e) false M) := by rw [lays, if_neg h]
theorem lays_tot (e : List Nod) : ∀ (n : Nat) (M : List Itm), totL (lays e n M) ≤ n * M.length := by
  intro n
  induction n with
  | zero => intro M; simp [lays, totL]
  | succ n ih =>
    intro M
    rw [lays]
    split
    · simp [totL]
    · have h1 := ih (only (bestL M e) false M)
      have h2 := only_len (bestL M e) false M
      have h3 := bestL_len M e
      have h4 := Nat.mul_le_mul (Nat.le_refl n) h2
      have h5 : (n + 1) * M.length = n * M.length + M.length := by rw [Nat.add_mul, Nat.one_mul]
      simp only [totL]; omega
def layersOf (L : List Itm) (e : List Nod) : List (List Int) := if fine L e then lays e L.length L else []
theorem layersOf_tot (L : List Itm) (e : List Nod) : totL (layersOf L e) ≤ 256 := by
  unfold layersOf
  split
  · rename_i h
    have h1 := lays_tot e L.length L
    have h2 := (fine_ok h).2.1
    have h3 := Nat.mul_le_mul h2 h2
    omega
  · simp [totL]
/-- where the layers stand: acc is done, M is left -/
def Lay (L : List Itm) (e : List Nod) (M : List Itm) (acc : List (List Int)) : Prop :=
  (∀ x, x ∈ M → isItem x = true) ∧ M.length + acc.length ≤ L.length ∧ acc ++ lays e (L.length - acc.length) M = lays e L.length L
theorem Lay.start {L : List Itm} {e : List Nod} (h : fine L e = true) : Lay L e L [] := by
  have hk := (fine_ok h).1
  refine ⟨fun x hx => ?_, by simp, by simp⟩
  obtain ⟨i, hi, rfl⟩ := List.getElem_of_mem hx
  rw [← gi_lt hi]; exact hk i hi
theorem Lay.step {L M : List Itm} {e : List Nod} {acc : List (List Int)} (h : Lay L e M acc) (hex : isExpr e = true) (hm : 0 < M.length) : Lay L e (only (bestL M e) false M) (acc ++ [bestL M e]) := by
  obtain ⟨h1, h2, h3⟩ := h
  have hl := best_less hex hm
  refine ⟨fun x hx => h1 x (only_mem hx), by rw [List.length_append]; simp only [List.length_cons, List.length_nil]; omega, ?_⟩
  rw [← h3]
  obtain ⟨d, hd⟩ : ∃ d, L.length - acc.length = d + 1 := ⟨L.length - acc.length - 1, by omega⟩
  rw [hd, lays_succ (by omega), List.append_assoc, List.length_append]
  simp only [List.length_cons, List.length_nil]
  rw [show L.length - (acc.length + (0 + 1)) = d by omega]; rfl
theorem Lay.stop {L M : List Itm} {e : List Nod} {acc : List (List Int)} (h : Lay L e M acc) (hm : M.length = 0) : acc = lays e L.length L := by
  obtain rfl := List.eq_nil_of_length_eq_zero hm
  have := h.2.2
  rwa [lays_nil, List.append_nil] at this
theorem Lay.at_ {L M : List Itm} {e : List Nod} {acc : List (List Int)} (h : Lay L e M acc) : ∀ i : Nat, i < M.length → isItem (gi M (i : Int)) = true := fun i hi => by
  rw [gi_lt hi]; exact h.1 _ (List.getElem_mem _)
attribute [local irreducible] W WL WD WE thenE inE retQ PureOp Keep Cell Cells Blk Sl Rows Own Src Fresh
attribute [local irreducible] only hasI bestL cmpE isExpr areItems fine lays Lay

end Go.E
set_option linter.unusedVariables false
set_option linter.unusedSimpArgs false
namespace Go.E
open Go Go.RowKit Go.Proofs
theorem best_iff {M : List Itm} {e : List Nod} {x : Itm} (hM : IdInj M) (hx : x ∈ M) : x.id ∈ bestL M e ↔ ∀ y, y ∈ M → cmpE e y x ≠ 1 := by
  obtain ⟨k, hk, rfl⟩ := mem_gi hx
  constructor
  · intro h y hy
    obtain ⟨i, hi, hu, he⟩ := pickN_mem h
    have hik := hM _ _ (giM_mem hi) hx he
    rw [← hik]
    obtain ⟨j, hj, rfl⟩ := mem_gi hy
    have := List.all_eq_true.1 hu j (by simpa using hj)
    simpa using this
  · intro h
    exact mem_pickN hk (allB_true fun j hj => by simpa using h _ (giM_mem hj))
theorem best_sub {M : List Itm} {e : List Nod} {y : Int} (h : y ∈ bestL M e) : ∃ x, x ∈ M ∧ x.id = y := by
  obtain ⟨i, hi, _, he⟩ := pickN_mem h
  exact ⟨_, giM_mem hi, he⟩
theorem only_iff {ids : List Int} {M : List Itm} {x : Itm} : x ∈ only ids false M ↔ x ∈ M ∧ x.id ∉ ids := by
  rw [only, List.mem_filter]
  constructor
  · rintro ⟨h1, h2⟩
    exact ⟨h1, fun hm => by rw [hasI_iff.2 hm] at h2; cases h2⟩
  · rintro ⟨h1, h2⟩
    refine ⟨h1, ?_⟩
    cases hh : hasI ids x.id with
    | true => exact absurd (hasI_iff.1 hh) h2
    | false => rfl
theorem only_inj {ids : List Int} {M : List Itm} (h : IdInj M) : IdInj (only ids false M) := fun x y hx hy he => h x y (only_iff.1 hx).1 (only_iff.1 hy).1 he
def lyr (ls : List (List Int)) (id : Int) : Int := idxB ls.length fun i => hasI (gi ls (i : Int)) id
theorem gi_cons0 {α : Type} [Inhabited α] (a : α) (r : List α) : gi (a :: r) ((0 : Nat) : Int) = a := by simp [gi]
theorem gi_consS {α : Type} [Inhabited α] (a : α) (r : List α) (i : Nat) : gi (a :: r) ((i + 1 : Nat) : Int) = gi r (i : Int) := by simp [gi]
theorem lyr_nil (id : Int) : lyr [] id = -1 := by rw [lyr, idxB_none]; intro i hi; simp at hi
theorem lyr_t {a : List Int} {r : List (List Int)} {id : Int} (h : id ∈ a) : lyr (a :: r) id = 0 := by
  rw [lyr, idxB_hit (k := 0) (by simp) (fun i hi => absurd hi (by omega))]
  · rfl
  · rw [gi_cons0, hasI_iff.2 h]
theorem lyr_f {a : List Int} {r : List (List Int)} {id : Int} (h : id ∉ a) : lyr (a :: r) id = if lyr r id < 0 then -1 else lyr r id + 1 := by
  have h0 : hasI a id = false := by
    cases hh : hasI a id with
    | true => exact absurd (hasI_iff.1 hh) h
    | false => rfl
  rcases idxB_cases r.length (fun i => hasI (gi r (i : Int)) id) with ⟨h1, h2⟩ | ⟨k, h1, hk, h2, h3⟩
  · have e1 : lyr r id = -1 := h1
    rw [e1, lyr, idxB_none]
    · rfl
    · intro i hi
      cases i with
      | zero => rw [gi_cons0]; exact h0
      | succ i => rw [gi_consS]; exact h2 i (by simpa using hi)
  · have e1 : lyr r id = k := h1
    rw [e1, if_neg (by omega), lyr, idxB_hit (k := k + 1) (by simpa using hk)]
    · omega
    · intro i hi
      cases i with
      | zero => rw [gi_cons0]; exact h0
      | succ i => rw [gi_consS]; exact h3 i (by omega)
    · rw [gi_consS]; exact h2
theorem lyr_lb (ls : List (List Int)) (id : Int) : -1 ≤ lyr ls id ∧ lyr ls id < ls.length := by
  unfold lyr
  rcases idxB_cases ls.length (fun i => hasI (gi ls (i : Int)) id) with ⟨h1, _⟩ | ⟨k, h1, hk, _⟩ <;> omega
theorem lays_len (e : List Nod) : ∀ (n : Nat) (M : List Itm), (lays e n M).length ≤ n := by
  intro n
  induction n with
  | zero => intro M; simp [lays]
  | succ n ih =>
    intro M
    rw [lays]
    split
    · simp
    · simp only [List.length_cons]; have := ih (only (bestL M e) false M); omega
section
variable {e : List Nod} (hex : isExpr e = true)
include hex
theorem lyr_all : ∀ (n : Nat) (M : List Itm), IdInj M → M.length ≤ n → ∀ x, x ∈ M → 0 ≤ lyr (lays e n M) x.id := by
  intro n
  induction n with
  | zero => intro M _ hl x hx; rw [List.eq_nil_of_length_eq_zero (l := M) (by omega)] at hx; cases hx
  | succ n ih =>
    intro M hM hl x hx
    have hp : 0 < M.length := List.length_pos_of_mem hx
    rw [lays_succ (by omega)]
    by_cases hb : x.id ∈ bestL M e
    · rw [lyr_t hb]; omega
    · have := ih _ (only_inj hM) (by have := best_less hex hp; omega) x (only_iff.2 ⟨hx, hb⟩)
      rw [lyr_f hb, if_neg (by omega)]; omega
theorem lyr_lt : ∀ (n : Nat) (M : List Itm), IdInj M → M.length ≤ n → ∀ x y, x ∈ M → y ∈ M → cmpE e y x = 1 → lyr (lays e n M) y.id < lyr (lays e n M) x.id := by
  intro n
  induction n with
  | zero => intro M _ hl x y hx; rw [List.eq_nil_of_length_eq_zero (l := M) (by omega)] at hx; cases hx
  | succ n ih =>
    intro M hM hl x y hx hy hc
    have hp : 0 < M.length := List.length_pos_of_mem hx
    have hless := best_less hex hp
    rw [lays_succ (by omega)]
    have hbx : x.id ∉ bestL M e := fun hb => (best_iff hM hx).1 hb y hy hc
    have hxx := lyr_all hex n _ (only_inj hM) (by omega) x (only_iff.2 ⟨hx, hbx⟩)
    rw [lyr_f hbx, if_neg (by omega)]
    by_cases hby : y.id ∈ bestL M e
    · rw [lyr_t hby]; omega
    · have hyy := lyr_all hex n _ (only_inj hM) (by omega) y (only_iff.2 ⟨hy, hby⟩)
      have := ih _ (only_inj hM) (by omega) x y (only_iff.2 ⟨hx, hbx⟩) (only_iff.2 ⟨hy, hby⟩) hc
      rw [lyr_f hby, if_neg (by omega)]; omega
theorem lyr_ex : ∀ (n : Nat) (M : List Itm), IdInj M → M.length ≤ n → ∀ x, x ∈ M → 0 < lyr (lays e n M) x.id → ∃ y, y ∈ M ∧ cmpE e y x = 1 ∧ lyr (lays e n M) y.id + 1 = lyr (lays e n M) x.id := by
  intro n
  induction n with
  | zero => intro M _ hl x hx; rw [List.eq_nil_of_length_eq_zero (l := M) (by omega)] at hx; cases hx
  | succ n ih =>
    intro M hM hl x hx
    have hp : 0 < M.length := List.length_pos_of_mem hx
    have hless := best_less hex hp
    rw [lays_succ (by omega)]
    by_cases hbx : x.id ∈ bestL M e
    · rw [lyr_t hbx]; intro h; omega
    · have hxm := only_iff.2 ⟨hx, hbx⟩
      have hxx := lyr_all hex n _ (only_inj hM) (by omega) x hxm
      rw [lyr_f hbx, if_neg (by omega)]
      intro _
      rcases Int.lt_or_eq_of_le hxx with h0 | h0
      · obtain ⟨y, hy, hc, he⟩ := ih _ (only_inj hM) (by omega) x hxm h0
        have hy1 := only_iff.1 hy
        have hyy := lyr_all hex n _ (only_inj hM) (by omega) y hy
        exact ⟨y, hy1.1, hc, by rw [lyr_f hy1.2, if_neg (by omega)]; omega⟩
      · have : ¬ ∀ y, y ∈ M → cmpE e y x ≠ 1 := fun h => hbx ((best_iff hM hx).2 h)
        simp only [Classical.not_forall, Classical.not_not] at this
        obtain ⟨y, hy, hc⟩ := this
        by_cases hby : y.id ∈ bestL M e
        · exact ⟨y, hy, hc, by rw [lyr_t hby]; omega⟩
        · have := lyr_lt hex n _ (only_inj hM) (by omega) x y hxm (only_iff.2 ⟨hy, hby⟩) hc
          have hyy := lyr_all hex n _ (only_inj hM) (by omega) y (only_iff.2 ⟨hy, hby⟩)
          omega
end
theorem lays_sub (e : List Nod) : ∀ (n : Nat) (M : List Itm) (k : Nat) (y : Int), y ∈ gi (lays e n M) (k : Int) → ∃ x, x ∈ M ∧ x.id = y := by
  intro n
  induction n with
  | zero => intro M k y h; simp [lays, gi] at h; cases h
  | succ n ih =>
    intro M k y h
    rw [lays] at h
    split at h
    · simp [gi] at h; cases h
    · cases k with
      | zero => rw [gi_cons0] at h; exact best_sub h
      | succ k =>
        rw [gi_consS] at h
        obtain ⟨x, hx, he⟩ := ih _ _ _ h
        exact ⟨x, (only_iff.1 hx).1, he⟩
theorem lyr_at (e : List Nod) : ∀ (n : Nat) (M : List Itm) (k : Nat) (y : Int), y ∈ gi (lays e n M) (k : Int) → lyr (lays e n M) y = k := by
  intro n
  induction n with
  | zero => intro M k y h; simp [lays, gi] at h; cases h
  | succ n ih =>
    intro M k y h
    rw [lays] at h ⊢
    split at h
    · simp [gi] at h; cases h
    · rename_i hne
      rw [if_neg hne]
      cases k with
      | zero => rw [gi_cons0] at h; rw [lyr_t h]; rfl
      | succ k =>
        rw [gi_consS] at h
        have h1 := ih _ _ _ h
        obtain ⟨x, hx, he⟩ := lays_sub e n _ _ _ h
        have h2 := (only_iff.1 hx).2
        rw [he] at h2
        rw [lyr_f h2, h1, if_neg (by omega)]; omega
def mxN (L : List Itm) (e : List Nod) (i : Nat) : Nat → Int
  | 0 => 0
  | n + 1 => if cmpE e (gi L (n : Int)) (gi L (i : Int)) = 1 then max (mxN L e i n) (1 + lyr (layersOf L e) (gi L (n : Int)).id) else mxN L e i n
theorem mxN_succ (L : List Itm) (e : List Nod) (i n : Nat) : mxN L e i (n + 1) = if cmpE e (gi L (n : Int)) (gi L (i : Int)) = 1 then max (mxN L e i n) (1 + lyr (layersOf L e) (gi L (n : Int)).id) else mxN L e i n := rfl
theorem lay_lt {L : List Itm} {e : List Nod} (h : fine L e = true) {i j : Nat} (hi : i < L.length) (hj : j < L.length) (hc : cmpE e (gi L (j : Int)) (gi L (i : Int)) = 1) : lyr (layersOf L e) (gi L (j : Int)).id < lyr (layersOf L e) (gi L (i : Int)).id := by
  have hf := h
  simp only [fine, Bool.and_eq_true] at hf
  rw [layersOf, if_pos h]
  exact lyr_lt hf.2 _ _ (areItems_inj hf.1) (Nat.le_refl _) _ _ (giM_mem hi) (giM_mem hj) hc
theorem lay_nn {L : List Itm} {e : List Nod} (h : fine L e = true) {i : Nat} (hi : i < L.length) : 0 ≤ lyr (layersOf L e) (gi L (i : Int)).id := by
  have hf := h
  simp only [fine, Bool.and_eq_true] at hf
  rw [layersOf, if_pos h]
  exact lyr_all hf.2 _ _ (areItems_inj hf.1) (Nat.le_refl _) _ (giM_mem hi)
theorem lay_ex {L : List Itm} {e : List Nod} (h : fine L e = true) {i : Nat} (hi : i < L.length) (hp : 0 < lyr (layersOf L e) (gi L (i : Int)).id) : ∃ j : Nat, j < L.length ∧ cmpE e (gi L (j : Int)) (gi L (i : Int)) = 1 ∧ lyr (layersOf L e) (gi L (j : Int)).id + 1 = lyr (layersOf L e) (gi L (i : Int)).id := by
  have hf := h
  simp only [fine, Bool.and_eq_true] at hf
  rw [layersOf, if_pos h] at *
  obtain ⟨y, hy, hc, he⟩ := lyr_ex hf.2 _ _ (areItems_inj hf.1) (Nat.le_refl _) _ (giM_mem hi) hp
  obtain ⟨j, hj, rfl⟩ := mem_gi hy
  exact ⟨j, hj, hc, he⟩
theorem lay_ub (L : List Itm) (e : List Nod) (id : Int) : -1 ≤ lyr (layersOf L e) id ∧ lyr (layersOf L e) id < 16 ∨ lyr (layersOf L e) id = -1 := by
  have h1 := lyr_lb (layersOf L e) id
  have h2 : (layersOf L e).length ≤ 16 := by
    unfold layersOf
    split
    · rename_i h; have := lays_len e L.length L; have := (fine_ok h).2.1; omega
    · simp
  omega
theorem mxN_bd {L : List Itm} {e : List Nod} (h : fine L e = true) {i : Nat} (hi : i < L.length) : ∀ n, n ≤ L.length → 0 ≤ mxN L e i n ∧ mxN L e i n ≤ lyr (layersOf L e) (gi L (i : Int)).id := by
  intro n
  induction n with
  | zero => intro _; exact ⟨Int.le_refl _, lay_nn h hi⟩
  | succ n ih =>
    intro hn
    obtain ⟨h1, h2⟩ := ih (by omega)
    rw [mxN_succ]
    split
    · rename_i hc
      have := lay_lt h hi (by omega) hc
      omega
    · exact ⟨h1, h2⟩
theorem mxN_ge {L : List Itm} {e : List Nod} {i j : Nat} (hc : cmpE e (gi L (j : Int)) (gi L (i : Int)) = 1) : ∀ n, j < n → 1 + lyr (layersOf L e) (gi L (j : Int)).id ≤ mxN L e i n := by
  intro n
  induction n with
  | zero => intro h; omega
  | succ n ih =>
    intro hn
    rw [mxN_succ]
    rcases Nat.lt_or_ge j n with hj | hj
    · have := ih hj
      split <;> omega
    · obtain rfl : j = n := by omega
      rw [if_pos hc]; omega
theorem mxN_eq {L : List Itm} {e : List Nod} (h : fine L e = true) {i : Nat} (hi : i < L.length) : mxN L e i L.length = lyr (layersOf L e) (gi L (i : Int)).id := by
  have hb := mxN_bd h hi L.length (Nat.le_refl _)
  rcases Int.lt_or_eq_of_le (lay_nn h hi) with h0 | h0
  · obtain ⟨j, hj, hc, he⟩ := lay_ex h hi h0
    have := mxN_ge (L := L) hc L.length hj
    omega
  · omega
theorem lyr_no {L : List Itm} {e : List Nod} {id : Int} (h : fine L e = false ∨ ¬ 0 ≤ findI L id) : lyr (layersOf L e) id = -1 := by
  rcases h with h | h
  · rw [layersOf, if_neg (by simp [h]), lyr_nil]
  · rw [lyr, idxB_none]
    intro i hi
    cases hh : hasI (gi (layersOf L e) (i : Int)) id with
    | false => rfl
    | true =>
      rw [hasI_iff] at hh
      unfold layersOf at hh
      split at hh
      · obtain ⟨x, hx, he⟩ := lays_sub e _ _ _ _ hh
        exact absurd he (findI_no h x hx)
      · simp [gi] at hh; cases hh
theorem lay_at {L : List Itm} {e : List Nod} {k : Nat} (hk : k < (layersOf L e).length) (y : Int) : hasI (gi (layersOf L e) (k : Int)) y = decide (lyr (layersOf L e) y = k) := by
  cases hh : hasI (gi (layersOf L e) (k : Int)) y with
  | true =>
    rw [hasI_iff] at hh
    have : lyr (layersOf L e) y = k := by
      unfold layersOf at hh ⊢
      split at hh
      · rename_i h; rw [if_pos h]; exact lyr_at e _ _ _ _ hh
      · simp [gi] at hh; cases hh
    rw [decide_eq_true this]
  | false =>
    symm
    rw [decide_eq_false_iff_not]
    intro he
    rcases idxB_cases (layersOf L e).length (fun i => hasI (gi (layersOf L e) (i : Int)) y) with ⟨h1, h2⟩ | ⟨m, h1, hm, h2, h3⟩
    · have e1 : lyr (layersOf L e) y = -1 := h1
      omega
    · have e1 : lyr (layersOf L e) y = m := h1
      obtain rfl : m = k := by omega
      rw [hh] at h2; cases h2
end Go.E
set_option linter.unusedVariables false
set_option linter.unusedSimpArgs false
namespace Go.E
open Go Go.RowKit Go.Proofs
/-- above each beaten item stands one that nothing beats -/
theorem top_above {f : Itm → Itm → Int} (hf : Ord3 f) {M : List Itm} {x y : Itm} (hy : y ∈ M) (hc : f y x = 1) : ∃ z, z ∈ M ∧ f z x = 1 ∧ ∀ u, u ∈ M → f u z ≠ 1 := by
  have hD : y ∈ M.filter fun z => decide (f z x = 1) := List.mem_filter.2 ⟨hy, by simp [hc]⟩
  obtain ⟨i, hi, ha⟩ := top_some hf (M.filter fun z => decide (f z x = 1)) _ (List.length_pos_of_mem hD)
  have hz := giM_mem hi
  have hz2 := List.mem_filter.1 hz
  have hzx : f (gi (M.filter fun z => decide (f z x = 1)) (i : Int)) x = 1 := by simpa using hz2.2
  refine ⟨_, hz2.1, hzx, fun u hu hb => ?_⟩
  have := hf.trans _ _ _ (.inr hb) (.inr hzx)
  rw [hb, hzx] at this
  obtain ⟨j, hj, hju⟩ := mem_gi (M := M.filter fun z => decide (f z x = 1)) (x := u) (List.mem_filter.2 ⟨hu, by simp; exact this⟩)
  exact ha j hj (by rw [hju]; exact hb)
theorem rel_gen {L : List Itm} {e : List Nod} (h : fine L e = true) {x : Itm} (hx : x ∈ L) (c : Int) : relL L e x.id c = pickN L (fun j => decide (cmpE e (gi L (j : Int)) x = c)) L.length := by
  have hf := h
  simp only [fine, Bool.and_eq_true] at hf
  rw [relL, if_pos (by simp [h, find_nn hx]), find_gi (areItems_inj hf.1) hx]
theorem rel_mem {L : List Itm} {e : List Nod} (h : fine L e = true) {x : Itm} (hx : x ∈ L) {c y : Int} : y ∈ relL L e x.id c ↔ ∃ z, z ∈ L ∧ z.id = y ∧ cmpE e z x = c := by
  rw [rel_gen h hx]
  constructor
  · intro hm
    obtain ⟨i, hi, hp, he⟩ := pickN_mem hm
    exact ⟨_, giM_mem hi, he, by simpa using hp⟩
  · rintro ⟨z, hz, rfl, hc⟩
    obtain ⟨i, hi, rfl⟩ := mem_gi hz
    exact mem_pickN hi (by simp [hc])
theorem at_id {L : List Itm} {id : Int} (h0 : 0 ≤ findI L id) : ∃ x, x ∈ L ∧ x.id = id := ⟨_, gz_mem h0 (findI_lt _ _), findI_id h0⟩
theorem bestItems_fine {L : List Itm} {e : List Nod} (h : fine L e = true) : bestItems L e = bestL L e := by rw [bestItems, if_pos h]
theorem fine_parts {L : List Itm} {e : List Nod} (h : fine L e = true) : IdInj L ∧ isExpr e = true ∧ areItems L = true := by
  have hf := h
  simp only [fine, Bool.and_eq_true] at hf
  exact ⟨areItems_inj hf.1, hf.2, hf.1⟩
theorem fb_some {L : List Itm} {e : List Nod} {id : Int} (h : fine L e = true) (h0 : 0 ≤ findI L id) (hn : (relL L e id 1).length ≠ 0) : ∃ i : Nat, i < (relL L e id 1).length ∧ hasI (bestItems L e) (gi (relL L e id 1) (i : Int)) = true := by
  obtain ⟨x, hx, rfl⟩ := at_id h0
  obtain ⟨hi, hex, _⟩ := fine_parts h
  have hm : gi (relL L e x.id 1) ((0 : Nat) : Int) ∈ relL L e x.id 1 := by rw [gi_lt (by omega)]; exact List.getElem_mem _
  obtain ⟨y, hy, _, hc⟩ := (rel_mem h hx).1 hm
  obtain ⟨z, hz, hzx, ha⟩ := top_above (cmpE_ok hex) hy hc
  have hzm : z.id ∈ relL L e x.id 1 := (rel_mem h hx).2 ⟨z, hz, rfl, hzx⟩
  obtain ⟨i, hi', he⟩ := List.getElem_of_mem hzm
  refine ⟨i, hi', ?_⟩
  rw [gi_lt hi', he, hasI_iff, bestItems_fine h]
  exact (best_iff hi hz).2 ha
theorem fb_dom {L : List Itm} {e : List Nod} {id : Int} (h : fine L e = true) (h0 : 0 ≤ findI L id) {i : Nat} (hi : i < (relL L e id 1).length) : hasI (relL L e (gi (relL L e id 1) (i : Int)) (-1)) id = true := by
  obtain ⟨x, hx, rfl⟩ := at_id h0
  obtain ⟨_, hex, _⟩ := fine_parts h
  have hm : gi (relL L e x.id 1) (i : Int) ∈ relL L e x.id 1 := by rw [gi_lt hi]; exact List.getElem_mem _
  obtain ⟨y, hy, he, hc⟩ := (rel_mem h hx).1 hm
  rw [← he, hasI_iff]
  exact (rel_mem h hy).2 ⟨x, hx, rfl, (flip1 hex y x).1 hc⟩
theorem fb_best {L : List Itm} {e : List Nod} {id : Int} (h : fine L e = true) (h0 : 0 ≤ findI L id) : hasI (bestItems L e) id = decide (((relL L e id 1).length : Int) = 0) := by
  obtain ⟨x, hx, rfl⟩ := at_id h0
  obtain ⟨hi, hex, _⟩ := fine_parts h
  rw [Bool.eq_iff_iff, hasI_iff, bestItems_fine h, best_iff hi hx, decide_eq_true_eq]
  constructor
  · intro ha
    rcases Nat.eq_zero_or_pos (relL L e x.id 1).length with h1 | h1
    · omega
    · exfalso
      have hm : (relL L e x.id 1)[0] ∈ relL L e x.id 1 := List.getElem_mem _
      obtain ⟨y, hy, _, hc⟩ := (rel_mem h hx).1 hm
      exact ha y hy hc
  · intro hz y hy hc
    have : y.id ∈ relL L e x.id 1 := (rel_mem h hx).2 ⟨y, hy, rfl, hc⟩
    have := List.length_pos_of_mem this
    omega
theorem freeN_best {L : List Itm} {e : List Nod} (hex : isExpr e = true) {i : Nat} (hi : i < L.length) (hu : unbeaten L e i = true) : ∀ n : Nat, n ≤ L.length → ((pickN L (unbeaten L e) n).length : Int) ≤ freeN L e i n := by
  intro n
  induction n with
  | zero => intro _; simp [pickN, freeN]
  | succ n ih =>
    intro hn
    have ih := ih (by omega)
    rw [freeN_succ]
    by_cases hp : unbeaten L e n = true
    · rw [pickN_t hp, List.length_append, List.length_cons, List.length_nil]
      have h1 : cmpE e (gi L (i : Int)) (gi L (n : Int)) ≠ 1 := by
        have := List.all_eq_true.1 hp i (by simpa using hi); simpa using this
      have h2 : cmpE e (gi L (n : Int)) (gi L (i : Int)) ≠ 1 := by
        have := List.all_eq_true.1 hu n (by simp; omega); simpa using this
      have h3 := (cmpE_ok hex).rng (gi L (i : Int)) (gi L (n : Int))
      have h4 : cmpE e (gi L (i : Int)) (gi L (n : Int)) ≠ -1 := fun hh => h2 ((flip1 hex _ _).2 hh)
      rw [if_pos (by omega)]; omega
    · rw [pickN_f (by simpa using hp)]
      split <;> omega
theorem widN_ge {L : List Itm} {e : List Nod} {i : Nat} : ∀ n : Nat, i < n → freeN L e i L.length ≤ widN L e n := by
  intro n
  induction n with
  | zero => intro h; omega
  | succ n ih =>
    intro h
    rw [widN_succ]
    rcases Nat.lt_or_ge i n with h1 | h1
    · have := ih h1; omega
    · obtain rfl : i = n := by omega
      omega
theorem widN_nn (L : List Itm) (e : List Nod) : ∀ n : Nat, 0 ≤ widN L e n := by
  intro n
  induction n with
  | zero => simp [widN]
  | succ n ih => rw [widN_succ]; omega
theorem fb_wid {L : List Itm} {e : List Nod} (h : fine L e = true) : ((bestItems L e).length : Int) ≤ width L e := by
  obtain ⟨hi, hex, _⟩ := fine_parts h
  rw [bestItems_fine h, width, if_pos h]
  by_cases h0 : (bestL L e).length = 0
  · rw [h0]; exact widN_nn L e _
  · have hm : (bestL L e)[0]'(by omega) ∈ bestL L e := List.getElem_mem _
    obtain ⟨i, hi', hu, _⟩ := pickN_mem hm
    have h1 := freeN_best hex hi' hu L.length (Nat.le_refl _)
    have h2 := widN_ge (L := L) (e := e) L.length hi'
    rw [bestL]; omega
def fbN (best d : List Int) : Nat → Bool
  | 0 => decide ((d.length : Int) = 0)
  | k + 1 => fbN best d k || hasI best (gi d (k : Int))
theorem fbN_hit {best d : List Int} {i : Nat} (h : hasI best (gi d (i : Int)) = true) : ∀ n, i < n → fbN best d n = true := by
  intro n
  induction n with
  | zero => intro h; omega
  | succ n ih =>
    intro hn
    rcases Nat.lt_or_ge i n with h1 | h1
    · simp [fbN, ih h1]
    · obtain rfl : i = n := by omega
      simp [fbN, h]
theorem fbN_zero {best d : List Int} (h : d.length = 0) : ∀ n, fbN best d n = true := by
  intro n
  induction n with
  | zero => simp [fbN, h]
  | succ n ih => simp [fbN, ih]
theorem fb_all {L : List Itm} {e : List Nod} {id : Int} (h : fine L e = true) (h0 : 0 ≤ findI L id) : fbN (bestItems L e) (relL L e id 1) (relL L e id 1).length = true := by
  by_cases hn : (relL L e id 1).length = 0
  · exact fbN_zero hn _
  · obtain ⟨i, hi, hh⟩ := fb_some h h0 hn
    exact fbN_hit hh _ hi
end Go.E

/-
  Plain laws: passes with a window of items. Conditions: as stated.
-/
import Derived.Test.YtdenoambgonomaaGreatX2
import Derived.Test.YtdenoambgonomaaGreatIx
import Derived.Test.YtdenoambgonomaaGreatM3
set_option linter.unusedVariables false
set_option linter.unusedSimpArgs false
namespace Go.E
open Go Go.RowKit Go.Proofs
theorem anyB_any {α : Type} [Inhabited α] (p : α → Bool) (xs : List α) : anyB xs.length (fun i => p (gi xs (i : Int))) = xs.any p := by
  rw [Bool.eq_iff_iff, List.any_eq_true]
  unfold anyB
  rw [Bool.not_eq_true']
  constructor
  · intro h
    refine Classical.byContradiction fun hn => ?_
    have : allB xs.length (fun i => !p (gi xs (i : Int))) = true := allB_true fun i hi => by
      cases hp : p (gi xs (i : Int)) with
      | false => rfl
      | true => exact absurd ⟨_, by rw [gi_lt hi]; exact List.getElem_mem _, hp⟩ hn
    rw [this] at h; cases h
  · rintro ⟨x, hx, hp⟩
    obtain ⟨i, hi, rfl⟩ := List.getElem_of_mem hx
    exact allB_false hi (by show (!p (gi xs (i : Int))) = false; rw [gi_lt hi, hp]; rfl)
def bHit (L : List Itm) (e : List Nod) (i : Nat) (h : Nat × Bool) : Bool := decide (cmpE e (gi L (h.1 : Int)) (gi L (i : Int)) = 1)
def bOut (L : List Itm) (e : List Nod) (i : Nat) (h : Nat × Bool) : Bool := decide (cmpE e (gi L (i : Int)) (gi L (h.1 : Int)) = 1)
def bIns (L : List Itm) (e : List Nod) (i : Nat) (st : List (Nat × Bool)) : List (Nat × Bool) := st.filter fun h => !bOut L e i h
def stepB (L : List Itm) (e : List Nod) (win : Nat) (st : List (Nat × Bool) × List Nat) (i : Nat) : List (Nat × Bool) × List Nat :=
  if st.1.any (bHit L e i) then st
  else if (bIns L e i st.1).length < win then (bIns L e i st.1 ++ [(i, decide (st.2.length = 0))], st.2)
  else (bIns L e i st.1, st.2 ++ [i])
def passN (L : List Itm) (e : List Nod) (win : Nat) (ps : List Nat) : Nat → List (Nat × Bool) × List Nat
  | 0 => ([], [])
  | n + 1 => stepB L e win (passN L e win ps n) (gi ps (n : Int))
def doneP (h : List (Nat × Bool)) : List Nat := (h.filter fun p => p.2).map fun p => p.1
def lateP (h : List (Nat × Bool)) : List Nat := (h.filter fun p => !p.2).map fun p => p.1
def idsP (L : List Itm) (ps : List Nat) : List Int := ps.map fun (i : Nat) => (gi L (i : Int)).id
def blockP (L : List Itm) (e : List Nod) (win : Nat) : Nat → List Nat → List Int × Nat
  | 0, _ => ([], 0)
  | n + 1, ps => if ps.length = 0 then ([], 0) else
      (idsP L (doneP (passN L e win ps ps.length).1) ++ (blockP L e win n ((passN L e win ps ps.length).2 ++ lateP (passN L e win ps ps.length).1)).1,
       (blockP L e win n ((passN L e win ps ps.length).2 ++ lateP (passN L e win ps ps.length).1)).2 + 1)
def blockBest (L : List Itm) (e : List Nod) (q : Int) : List Int × Nat := if fine L e && inR q 1 16 then (sortP id (blockP L e q.toNat L.length (List.range L.length)).1, (blockP L e q.toNat L.length (List.range L.length)).2) else ([], 0)
theorem bIns_len (L : List Itm) (e : List Nod) (i : Nat) (st : List (Nat × Bool)) : (bIns L e i st).length ≤ st.length := List.length_filter_le _ _
theorem stepB_len (L : List Itm) (e : List Nod) (win : Nat) (st : List (Nat × Bool) × List Nat) (i : Nat) : (stepB L e win st i).1.length + (stepB L e win st i).2.length ≤ st.1.length + st.2.length + 1 := by
  unfold stepB
  have := bIns_len L e i st.1
  split
  · omega
  · split
    · simp only [List.length_append, List.length_cons, List.length_nil]; omega
    · simp only [List.length_append, List.length_cons, List.length_nil]; omega
theorem passN_len (L : List Itm) (e : List Nod) (win : Nat) (ps : List Nat) : ∀ n : Nat, (passN L e win ps n).1.length + (passN L e win ps n).2.length ≤ n
  | 0 => by simp [passN]
  | n + 1 => by
    have := stepB_len L e win (passN L e win ps n) (gi ps (n : Int))
    have := passN_len L e win ps n
    rw [passN]; omega
theorem stepB_mem {L : List Itm} {e : List Nod} {win : Nat} {st : List (Nat × Bool) × List Nat} {i : Nat} {S : Nat → Prop} (h1 : ∀ x, x ∈ st.1 → S x.1) (h2 : ∀ x, x ∈ st.2 → S x) (hi : S i) : (∀ x, x ∈ (stepB L e win st i).1 → S x.1) ∧ ∀ x, x ∈ (stepB L e win st i).2 → S x := by
  have hf : ∀ x, x ∈ bIns L e i st.1 → S x.1 := fun x hx => h1 x (List.mem_filter.1 hx).1
  unfold stepB
  split
  · exact ⟨h1, h2⟩
  · split
    · refine ⟨fun x hx => ?_, h2⟩
      rcases List.mem_append.1 hx with hx | hx
      · exact hf x hx
      · rw [List.mem_singleton] at hx; rw [hx]; exact hi
    · refine ⟨hf, fun x hx => ?_⟩
      rcases List.mem_append.1 hx with hx | hx
      · exact h2 x hx
      · rw [List.mem_singleton] at hx; rw [hx]; exact hi
theorem passN_mem {L : List Itm} {e : List Nod} {win : Nat} {ps : List Nat} {S : Nat → Prop} (h : ∀ x, x ∈ ps → S x) : ∀ n : Nat, n ≤ ps.length → (∀ x, x ∈ (passN L e win ps n).1 → S x.1) ∧ ∀ x, x ∈ (passN L e win ps n).2 → S x
  | 0, _ => by simp [passN]
  | n + 1, hn => by
    have ih := passN_mem (L := L) (e := e) (win := win) h n (by omega)
    rw [passN]
    exact stepB_mem ih.1 ih.2 (h _ (by rw [gi_lt (by omega)]; exact List.getElem_mem _))
theorem doneP_len (h : List (Nat × Bool)) : (doneP h).length + (lateP h).length = h.length := by
  unfold doneP lateP
  rw [List.length_map, List.length_map]
  induction h with
  | nil => rfl
  | cons x r ih =>
    obtain ⟨i, b⟩ := x
    cases b <;> simp [List.filter_cons] <;> omega
theorem late_filter (L : List Itm) (e : List Nod) (i : Nat) (h : List (Nat × Bool)) : (lateP (bIns L e i h)).length ≤ (lateP h).length := by
  unfold lateP bIns
  rw [List.length_map, List.length_map, List.filter_filter]
  induction h with
  | nil => simp
  | cons x r ih =>
    simp only [List.filter_cons]
    repeat' split
    all_goals simp_all
    all_goals omega
theorem lateP_snoc (h : List (Nat × Bool)) (i : Nat) (b : Bool) : (lateP (h ++ [(i, b)])).length ≤ (lateP h).length + 1 ∧ (b = true → (lateP (h ++ [(i, b)])).length = (lateP h).length) := by
  unfold lateP
  rw [List.filter_append, List.map_append, List.length_append]
  cases b <;> simp
/-- each pass settles an item -/
theorem passN_less {L : List Itm} {e : List Nod} {win : Nat} {ps : List Nat} (hw : 0 < win) : ∀ n : Nat, (passN L e win ps (n + 1)).2.length + (lateP (passN L e win ps (n + 1)).1).length < n + 1
  | 0 => by
    have : passN L e win ps 1 = ([(gi ps (0 : Int), true)], []) := by
      have h0 : passN L e win ps 0 = ([], []) := rfl
      rw [passN, h0, stepB]
      simp [bIns, hw]
    rw [this]; simp [lateP]
  | n + 1 => by
    have ih := passN_less (L := L) (e := e) (ps := ps) hw n
    rw [passN]
    generalize passN L e win ps (n + 1) = st at *
    generalize gi ps ((n + 1 : Nat) : Int) = i at *
    have h1 := late_filter L e i st.1
    unfold stepB
    split
    · omega
    · split
      · have h2 := (lateP_snoc (bIns L e i st.1) i (decide (st.2.length = 0))).1
        dsimp only; omega
      · simp only [List.length_append, List.length_cons, List.length_nil]; omega
theorem pass_less {L : List Itm} {e : List Nod} {win : Nat} {ps : List Nat} (hw : 0 < win) (hp : ps.length ≠ 0) : ((passN L e win ps ps.length).2 ++ lateP (passN L e win ps ps.length).1).length < ps.length := by
  obtain ⟨n, hn⟩ : ∃ n, ps.length = n + 1 := ⟨ps.length - 1, by omega⟩
  have := passN_less (L := L) (e := e) (ps := ps) hw n
  rw [List.length_append, hn]; exact this
theorem blockP_nil (L : List Itm) (e : List Nod) (win n : Nat) : blockP L e win n [] = ([], 0) := by cases n <;> rfl
theorem blockP_len (L : List Itm) (e : List Nod) (win : Nat) : ∀ (n : Nat) (ps : List Nat), (blockP L e win n ps).1.length ≤ ps.length ∧ (blockP L e win n ps).2 ≤ n
  | 0, ps => by simp [blockP]
  | n + 1, ps => by
    rw [blockP]
    split
    · simp
    · have h1 := blockP_len L e win n ((passN L e win ps ps.length).2 ++ lateP (passN L e win ps ps.length).1)
      have h2 := passN_len L e win ps ps.length
      have h3 := doneP_len (passN L e win ps ps.length).1
      simp only [List.length_append, idsP, List.length_map] at h1 ⊢
      omega
theorem blockBest_len (L : List Itm) (e : List Nod) (q : Int) : (blockBest L e q).1.length ≤ 16 ∧ (blockBest L e q).2 ≤ 16 := by
  unfold blockBest
  split
  · rename_i h
    simp only [Bool.and_eq_true] at h
    have h1 := blockP_len L e q.toNat L.length (List.range L.length)
    rw [List.length_range] at h1
    have := (fine_ok h.1).2.1
    rw [sortP_len]; omega
  · simp
/-- own slices in blocks of their own -/
def Apart (v u : Value) : Prop := ∀ c, v.ownBlock = some c → u.ownBlock ≠ some c
theorem Apart.symm {v u : Value} (h : Apart v u) : Apart u v := fun c h1 h2 => h c h2 h1
theorem Apart.next {v v' u : Value} {n : Nat} (h : Apart v u) (k : v'.ownBlock = v.ownBlock ∨ v'.ownBlock = some n) (hu : ∀ c, u.ownBlock = some c → c < n) : Apart v' u := fun c h1 h2 => by
  rcases k with k | k
  · exact h c (k ▸ h1) h2
  · rw [k] at h1; simp only [Option.some.injEq] at h1; have := hu c h2; omega
theorem Cells.pre {w : World} {p : Option Addr} {xs ys : List Value} (h : Cells w p (xs ++ ys)) : Cells w (fa p 0) xs := by
  obtain ⟨ad, rfl, hc⟩ := h
  refine ⟨ad.add 0, rfl, fun j v hv => ?_⟩
  rw [add_add, Nat.zero_add]
  exact hc j v (by rw [List.getElem?_append_left (List.getElem?_eq_some_iff.1 hv).1]; exact hv)
end Go.E

/-
  Plain laws: votes, scores and the unanimously best. Conditions: as stated.
-/
import Derived.Test.YtoemiahnilmdlaaFi
import Derived.Test.YtoemiahnilmdlaaLs
import Derived.Test.YtoemiahnilmdlaaY3
set_option linter.unusedVariables false
set_option linter.unusedSimpArgs false
namespace Go.E
open Go Go.RowKit Go.Proofs
theorem allB_at {n : Nat} {f : Nat → Bool} (h : allB n f = true) {i : Nat} (hi : i < n) : f i = true := List.all_eq_true.1 h i (by simpa using hi)
theorem gp_best {L : List Itm} {e : List Nod} (hf : fine L e = true) {i : Nat} (hi : i < L.length) (h : hasI (bestItems L e) (gi L (i : Int)).id = true) : ∀ k : Nat, k < L.length → cmpE e (gi L (k : Int)) (gi L (i : Int)) ≠ 1 := by
  have hf' := hf
  simp only [fine, Bool.and_eq_true] at hf'
  rw [hasI_iff, bestItems, if_pos hf] at h
  obtain ⟨j, hj, hu, he⟩ := pickN_mem h
  have hji := areItems_inj hf'.1 _ _ (giM_mem hj) (giM_mem hi) he
  intro k hk
  have := allB_at hu hk
  rw [← hji]; simpa using this
def sumN (f : Nat → Int) : Nat → Int
  | 0 => 0
  | n + 1 => sumN f n + f n
theorem sumN_succ (f : Nat → Int) (n : Nat) : sumN f (n + 1) = sumN f n + f n := rfl
theorem sumN_congr {f g : Nat → Int} {n : Nat} (h : ∀ i, i < n → f i = g i) : sumN f n = sumN g n := by
  induction n with
  | zero => rfl
  | succ n ih => rw [sumN, sumN, ih fun i hi => h i (by omega), h n (by omega)]
theorem sumN_add (f g : Nat → Int) (n : Nat) : sumN (fun i => f i + g i) n = sumN f n + sumN g n := by
  induction n with
  | zero => rfl
  | succ n ih => simp only [sumN, ih]; omega
theorem sumN_sub (f g : Nat → Int) (n : Nat) : sumN (fun i => f i - g i) n = sumN f n - sumN g n := by
  induction n with
  | zero => rfl
  | succ n ih => simp only [sumN, ih]; omega
theorem sumN_zero (n : Nat) : sumN (fun _ => 0) n = 0 := by
  induction n with
  | zero => rfl
  | succ n ih => simp only [sumN, ih]; rfl
theorem sumN_swap (f : Nat → Nat → Int) (n m : Nat) : sumN (fun i => sumN (fun j => f i j) m) n = sumN (fun j => sumN (fun i => f i j) n) m := by
  induction n with
  | zero => simp only [sumN, sumN_zero]
  | succ n ih => simp only [sumN, ih, sumN_add]
theorem pickN_sum (L : List Itm) (p : Nat → Bool) (n : Nat) : ((pickN L p n).length : Int) = sumN (fun j => if p j then 1 else 0) n := by
  induction n with
  | zero => rfl
  | succ n ih =>
    rw [sumN, ← ih, pickN, List.length_append]
    split <;> simp
theorem rel_len {L : List Itm} {e : List Nod} (hf : fine L e = true) {i : Nat} (hi : i < L.length) (c : Int) : ((relL L e (gi L (i : Int)).id c).length : Int) = sumN (fun j => if cmpE e (gi L (j : Int)) (gi L (i : Int)) = c then 1 else 0) L.length := by
  have hf' := hf
  simp only [fine, Bool.and_eq_true] at hf'
  have hx := giM_mem hi
  have h0 : 0 ≤ findI L (gi L (i : Int)).id := by
    by_cases h0 : 0 ≤ findI L (gi L (i : Int)).id
    · exact h0
    · exact absurd rfl (findI_no h0 _ hx)
  have hge : gi L (findI L (gi L (i : Int)).id) = gi L (i : Int) := find_gi (areItems_inj hf'.1) hx
  rw [relL, if_pos (by simp [hf, h0]), hge, pickN_sum]
  exact sumN_congr fun j hj => by simp
theorem borda_zero {L : List Itm} {g : List (List Nod)} (hp : poll L g = true) : ∀ m : Nat, m ≤ g.length → sumN (fun i => bordN L g i m) L.length = 0 := by
  intro m
  induction m with
  | zero => intro _; exact sumN_zero _
  | succ m ih =>
    intro hm
    have ih := ih (by omega)
    have hx := (poll_ok hp).2.2.1 m (by omega)
    have hf : fine L (gi g (m : Int)) = true := by
      simp only [poll, Bool.and_eq_true] at hp
      simp [fine, hp.1, hx]
    have e : sumN (fun i => bordN L g i (m + 1)) L.length = sumN (fun i => bordN L g i m + (sumN (fun j => if cmpE (gi g (m : Int)) (gi L (j : Int)) (gi L (i : Int)) = -1 then 1 else 0) L.length - sumN (fun j => if cmpE (gi g (m : Int)) (gi L (j : Int)) (gi L (i : Int)) = 1 then 1 else 0) L.length)) L.length := by
      refine sumN_congr fun i hi => ?_
      rw [bordN_succ, rel_len hf hi, rel_len hf hi]; omega
    rw [e, sumN_add, ih, sumN_sub]
    have e2 : sumN (fun i => sumN (fun j => if cmpE (gi g (m : Int)) (gi L (j : Int)) (gi L (i : Int)) = -1 then (1 : Int) else 0) L.length) L.length = sumN (fun i => sumN (fun j => if cmpE (gi g (m : Int)) (gi L (j : Int)) (gi L (i : Int)) = 1 then (1 : Int) else 0) L.length) L.length := by
      rw [sumN_swap]
      refine sumN_congr fun i _ => sumN_congr fun j _ => ?_
      by_cases h : cmpE (gi g (m : Int)) (gi L (j : Int)) (gi L (i : Int)) = 1
      · rw [if_pos h, if_pos ((flip1 hx _ _).1 h)]
      · rw [if_neg h, if_neg fun h2 => h ((flip1 hx _ _).2 h2)]
    omega
theorem votes_at {L : List Itm} {g : List (List Nod)} (hp : poll L g = true) {i k : Nat} (hi : i < L.length) (hk : k < L.length) : votesFor L g (gi L (i : Int)).id (gi L (k : Int)).id = votN g (gi L (i : Int)) (gi L (k : Int)) g.length := by
  have hp' := hp
  simp only [poll, Bool.and_eq_true] at hp'
  have hj := areItems_inj hp'.1
  have h1 := find_gi hj (giM_mem hi)
  have h2 := find_gi hj (giM_mem hk)
  have n1 := find_nn (giM_mem hi)
  have n2 := find_nn (giM_mem hk)
  rw [votesFor, if_pos (by simp [hp, n1, n2]), h1, h2]
theorem votN_nn (g : List (List Nod)) (x y : Itm) : ∀ n : Nat, 0 ≤ votN g x y n := by
  intro n
  induction n with
  | zero => simp [votN]
  | succ n ih => simp only [votN]; split <;> omega
theorem votN_none {g : List (List Nod)} {x y : Itm} : ∀ n : Nat, (∀ v : Nat, v < n → cmpE (gi g (v : Int)) x y ≠ 1) → votN g x y n = 0 := by
  intro n
  induction n with
  | zero => intro _; rfl
  | succ n ih => intro h; simp only [votN]; rw [if_neg (h n (by omega)), ih fun v hv => h v (by omega)]
theorem unan_of {L : List Itm} {g : List (List Nod)} {i : Nat} (h : ∀ k : Nat, k < L.length → beatsAll g (gi L (k : Int)) (gi L (i : Int)) = false) : unanAt L g i = true := allB_true fun k hk => by rw [h k hk]; rfl
theorem cond_unan {L : List Itm} {g : List (List Nod)} (hp : poll L g = true) {i : Nat} (hi : i < L.length) (hc : condAt L g i = true) : unanAt L g i = true := by
  have hex := (poll_ok hp).2.2.1
  refine unan_of fun k hk => ?_
  cases hb : beatsAll g (gi L (k : Int)) (gi L (i : Int)) with
  | false => rfl
  | true =>
    exfalso
    simp only [beatsAll, Bool.and_eq_true, Bool.not_eq_true'] at hb
    have hno : ∀ v : Nat, v < g.length → cmpE (gi g (v : Int)) (gi L (i : Int)) (gi L (k : Int)) ≠ 1 := fun v hv h1 => by
      have h2 := allB_at hb.1 hv
      have h3 := (flip1 (hex v hv) _ _).1 h1
      simp only [Bool.or_eq_true, decide_eq_true_eq] at h2
      omega
    have h4 := allB_at hc hk
    simp only [duelAt, Bool.or_eq_true, decide_eq_true_eq] at h4
    rcases h4 with rfl | h4
    · have : allB g.length (fun v => decide (cmpE (gi g (v : Int)) (gi L (i : Int)) (gi L (i : Int)) ≠ 1)) = true := allB_true fun v hv => by simpa using hno v hv
      rw [this] at hb; cases hb.2
    · rw [votes_at hp hk hi, votes_at hp hi hk, votN_none g.length hno] at h4
      have := votN_nn g (gi L (k : Int)) (gi L (i : Int)) g.length
      omega
theorem appr_all {L : List Itm} {g : List (List Nod)} {i : Nat} : ∀ n : Nat, apprN L g i n = n → ∀ v : Nat, v < n → hasI (bestItems L (gi g (v : Int))) (gi L (i : Int)).id = true := by
  intro n
  induction n with
  | zero => intro _ v hv; omega
  | succ n ih =>
    intro h v hv
    rw [apprN_succ] at h
    have hb := apprN_bd L g i n
    by_cases hh : hasI (bestItems L (gi g (n : Int))) (gi L (i : Int)).id = true
    · rw [if_pos hh] at h
      rcases Nat.lt_or_ge v n with h1 | h1
      · exact ih (by omega) v h1
      · obtain rfl : v = n := by omega
        exact hh
    · rw [if_neg hh] at h; omega
theorem appr_unan {L : List Itm} {g : List (List Nod)} (hp : poll L g = true) {i : Nat} (hi : i < L.length) (ha : apprN L g i g.length = g.length) : unanAt L g i = true := by
  have hp' := hp
  simp only [poll, Bool.and_eq_true] at hp'
  have hex := (poll_ok hp).2.2.1
  refine unan_of fun k hk => ?_
  have : allB g.length (fun v => decide (cmpE (gi g (v : Int)) (gi L (k : Int)) (gi L (i : Int)) ≠ 1)) = true := allB_true fun v hv => by
    have hf : fine L (gi g (v : Int)) = true := by simp [fine, hp'.1, hex v hv]
    simpa using gp_best hf hi (appr_all g.length ha v hv) k hk
  unfold beatsAll
  rw [this]; simp
theorem cond_of {L : List Itm} {g : List (List Nod)} (h : 0 ≤ condorcet L g) : poll L g = true ∧ ∃ i : Nat, i < L.length ∧ condAt L g i = true ∧ (gi L (i : Int)).id = condorcet L g := by
  unfold condorcet at h ⊢
  by_cases hp : poll L g = true
  · rw [if_pos hp] at h ⊢
    cases hf : (List.range L.length).find? (condAt L g) with
    | none => rw [hf] at h; simp at h
    | some i =>
      rw [hf] at h
      rw [List.find?_range_eq_some] at hf
      exact ⟨hp, i, List.mem_range.1 hf.2.1, hf.1, rfl⟩
  · rw [if_neg hp] at h; omega
theorem unan_has {L : List Itm} {g : List (List Nod)} (hp : poll L g = true) {i : Nat} (hi : i < L.length) (h : unanAt L g i = true) : hasI (pickIf (poll L g) L (unanAt L g)) (gi L (i : Int)).id = true := by
  rw [hasI_iff, pickIf, if_pos hp]
  exact mem_pickN hi h
theorem cond_beats {L : List Itm} {g : List (List Nod)} (h : 0 ≤ condorcet L g) {k : Nat} (hk : k < L.length) (hne : (gi L (k : Int)).id ≠ condorcet L g) : votesFor L g (gi L (k : Int)).id (condorcet L g) < votesFor L g (condorcet L g) (gi L (k : Int)).id := by
  obtain ⟨hp, i, hi, hc, he⟩ := cond_of h
  rw [← he] at hne ⊢
  have h4 := allB_at hc hk
  simp only [duelAt, Bool.or_eq_true, decide_eq_true_eq] at h4
  rcases h4 with rfl | h4
  · exact absurd rfl hne
  · exact h4
theorem group_cond {L : List Itm} {g : List (List Nod)} (h : 0 ≤ condorcet L g) : groupBy L g 0 = condorcet L g := by
  obtain ⟨hp, i, hi, _⟩ := cond_of h
  unfold groupBy
  rw [if_neg (by simp [hp]; intro h0; rw [h0] at hi; simp at hi), if_pos rfl]
theorem veto_sub (L : List Itm) (g : List (List Nod)) (m : Int) : subB (pickIf (poll L g) L (vetoAt L g m)) (pickIf (poll L g) L (vetoAt L g (m + 1))) = true := by
  refine allB_true fun i hi => ?_
  have hm : gi (pickIf (poll L g) L (vetoAt L g m)) (i : Int) ∈ pickIf (poll L g) L (vetoAt L g m) := by rw [gi_lt hi]; exact List.getElem_mem _
  generalize gi (pickIf (poll L g) L (vetoAt L g m)) (i : Int) = y at hm
  rw [hasI_iff]
  unfold pickIf at hm ⊢
  split at hm
  · rename_i hp
    rw [if_pos hp]
    obtain ⟨j, hj, hv, rfl⟩ := pickN_mem hm
    refine mem_pickN hj (allB_true fun v hv2 => ?_)
    have := allB_at hv hv2
    simp at this ⊢; omega
  · cases hm
theorem score_at (f : Nat → Int) : ∀ (n i : Nat), i < n → gi (scoreN f n) (i : Int) = f i := by
  intro n
  induction n with
  | zero => intro i hi; omega
  | succ n ih =>
    intro i hi
    rw [scoreN_succ]
    rcases Nat.lt_or_ge i n with h | h
    · rw [← ih i h, gi_lt (by simp [scoreN_len]; omega), gi_lt (by rw [scoreN_len]; exact h), List.getElem_append_left]
    · obtain rfl : i = n := by omega
      rw [gi_lt (by simp [scoreN_len])]
      simp [scoreN_len]
end Go.E

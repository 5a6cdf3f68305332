/-
  Plain laws: sorted access and boxes find the best items for low wishes. No program here. Conditions: as stated.
-/
import Derived.Test.YtnlleecmnjnphaaGreatGt
import Derived.Test.YtnlleecmnjnphaaGreatGy
set_option linter.unusedVariables false
set_option linter.unusedSimpArgs false
namespace Go.E
open Go Go.RowKit Go.Proofs
def AscI (xs : List Int) : Prop := xs.Pairwise fun a b => a < b
theorem ascI_ext : ∀ {a b : List Int}, AscI a → AscI b → (∀ x, x ∈ a ↔ x ∈ b) → a = b
  | [], [], _, _, _ => rfl
  | [], y :: s, _, _, h => by have := (h y).2 (by simp); cases this
  | x :: r, [], _, _, h => by have := (h x).1 (by simp); cases this
  | x :: r, y :: s, ha, hb, h => by
    obtain ⟨a1, a2⟩ := List.pairwise_cons.1 ha
    obtain ⟨b1, b2⟩ := List.pairwise_cons.1 hb
    have hxy : x = y := by
      have h1 := (h x).1 (by simp)
      have h2 := (h y).2 (by simp)
      rcases List.mem_cons.1 h1 with h1 | h1
      · exact h1
      · rcases List.mem_cons.1 h2 with h2 | h2
        · exact h2.symm
        · have := b1 x h1; have := a1 y h2; omega
    subst hxy
    congr 1
    refine ascI_ext a2 b2 fun z => ?_
    constructor
    · intro hz
      rcases List.mem_cons.1 ((h z).1 (List.mem_cons_of_mem _ hz)) with h1 | h1
      · have := a1 z hz; omega
      · exact h1
    · intro hz
      rcases List.mem_cons.1 ((h z).2 (List.mem_cons_of_mem _ hz)) with h1 | h1
      · have := b1 z hz; omega
      · exact h1
theorem ascI_sort {xs : List Int} (h : xs.Nodup) : AscI (sortP id xs) := by
  have h1 := sortP_sorted xs
  have h2 : (sortP id xs).Nodup := (sortP_perm id xs).nodup_iff.2 h
  exact (h1.and h2).imp fun ⟨h4, h5⟩ => by omega
def IdsUp (M : List Itm) : Prop := M.Pairwise fun x y => x.id < y.id
theorem items_up {L : List Itm} (h : areItems L = true) : IdsUp L := by
  rw [IdsUp, List.pairwise_iff_getElem]
  intro i j hi hj hij
  have := id_lt h hij hj
  rwa [gi_lt hi, gi_lt hj] at this
theorem up_lt {M : List Itm} (h : IdsUp M) {i k : Nat} (hik : i < k) (hk : k < M.length) : (gi M (i : Int)).id < (gi M (k : Int)).id := by
  rw [gi_lt (show i < M.length by omega), gi_lt hk]
  exact List.pairwise_iff_getElem.1 h i k (by omega) hk hik
theorem pickN_up {M : List Itm} {p : Nat → Bool} (h : IdsUp M) : ∀ n : Nat, n ≤ M.length → AscI (pickN M p n) := by
  intro n
  induction n with
  | zero => intro _; exact List.Pairwise.nil
  | succ n ih =>
    intro hn
    have ih := ih (by omega)
    by_cases hp : p n = true
    · rw [pickN_t hp, AscI, List.pairwise_append]
      refine ⟨ih, List.pairwise_singleton _ _, fun a ha b hb => ?_⟩
      rw [List.mem_singleton] at hb
      obtain ⟨i, hi, _, rfl⟩ := pickN_mem ha
      rw [hb]
      exact up_lt h hi (by omega)
    · rw [pickN_f (by simpa using hp)]; exact ih
theorem pickI_up {L : List Itm} {p : Nat → Bool} (h : IdsUp L) : ∀ n : Nat, n ≤ L.length → IdsUp (pickI L p n) := by
  intro n
  induction n with
  | zero => intro _; exact List.Pairwise.nil
  | succ n ih =>
    intro hn
    have ih := ih (by omega)
    by_cases hp : p n = true
    · rw [pickI_t hp, IdsUp, List.pairwise_append]
      refine ⟨ih, List.pairwise_singleton _ _, fun a ha b hb => ?_⟩
      rw [List.mem_singleton] at hb
      obtain ⟨i, hi, _, rfl⟩ := (pickI_mem n).1 ha
      rw [hb]
      exact up_lt h hi (by omega)
    · rw [pickI_f (by simpa using hp)]; exact ih
theorem allB_get {n : Nat} {f : Nat → Bool} (h : allB n f = true) {i : Nat} (hi : i < n) : f i = true := List.all_eq_true.1 h i (by simpa using hi)
theorem lwr_iff {f a b : List Int} : lwr f a b = true ↔ (∀ k : Nat, k < f.length → gi a (gi f (k : Int)) ≤ gi b (gi f (k : Int))) ∧ ∃ k : Nat, k < f.length ∧ gi a (gi f (k : Int)) < gi b (gi f (k : Int)) := by
  unfold lwr
  rw [Bool.and_eq_true, exB_iff]
  constructor
  · rintro ⟨h1, k, hk, h2⟩
    exact ⟨fun k hk => of_decide_eq_true (allB_get h1 hk), k, hk, of_decide_eq_true h2⟩
  · rintro ⟨h1, k, hk, h2⟩
    exact ⟨allB_true fun k hk => decide_eq_true (h1 k hk), k, hk, decide_eq_true h2⟩
theorem lwr_better {f : List Int} (h : isFieldList f = true) (x y : Itm) : lwr f x.vals y.vals = true ↔ cmpE (lowE f) x y = 1 := by
  rw [low_better h, lwr_iff]
  constructor
  · rintro ⟨h1, k, hk, h2⟩
    exact ⟨allB_true fun k hk => decide_eq_true (h1 k hk), allB_false hk (decide_eq_false (by unfold fval; omega))⟩
  · rintro ⟨h1, h2⟩
    refine ⟨fun k hk => of_decide_eq_true (allB_get h1 hk), ?_⟩
    apply Classical.byContradiction
    intro hn
    rw [show loB f y x f.length = true from allB_true fun k hk => decide_eq_true (by
      have : ¬ gi x.vals (gi f (k : Int)) < gi y.vals (gi f (k : Int)) := fun hlt => hn ⟨k, hk, hlt⟩
      unfold fval; omega)] at h2
    cases h2
theorem lwr_le {f a b c : List Int} (h : lwr f a b = true) (hle : ∀ k : Nat, k < f.length → gi b (gi f (k : Int)) ≤ gi c (gi f (k : Int))) : lwr f a c = true := by
  obtain ⟨h1, k, hk, h2⟩ := lwr_iff.1 h
  exact lwr_iff.2 ⟨fun k hk => Int.le_trans (h1 k hk) (hle k hk), k, hk, Int.lt_of_lt_of_le h2 (hle k hk)⟩
theorem lwr_trans {f a b c : List Int} (h : lwr f a b = true) (h2 : lwr f b c = true) : lwr f a c = true := lwr_le h (lwr_iff.1 h2).1
theorem lwr_irr (f a : List Int) : lwr f a a = false := by
  cases h : lwr f a a with
  | false => rfl
  | true => obtain ⟨_, k, _, h⟩ := lwr_iff.1 h; omega
theorem lwr_top {f : List Int} (h : isFieldList f = true) {M : List Itm} {x y : Itm} (hy : y ∈ M) (hc : lwr f y.vals x.vals = true) : ∃ z, z ∈ M ∧ lwr f z.vals x.vals = true ∧ ∀ u, u ∈ M → lwr f u.vals z.vals = false := by
  obtain ⟨z, h1, h2, h3⟩ := top_above (cmpE_ok (lowE_expr h)) hy ((lwr_better h y x).1 hc)
  exact ⟨z, h1, (lwr_better h z x).2 h2, fun u hu => by
    cases hl : lwr f u.vals z.vals with
    | false => rfl
    | true => exact absurd ((lwr_better h u z).1 hl) (h3 u hu)⟩
/-- found: what nothing beats among the items that were gone through -/
structure Bst (f : List Int) (F P : List Itm) : Prop where
  mem : ∀ x, x ∈ F ↔ x ∈ P ∧ ∀ z, z ∈ P → lwr f z.vals x.vals = false
  nd : F.Nodup
theorem Bst.congr {f : List Int} {F P Q : List Itm} (h : Bst f F P) (e : ∀ x, x ∈ P ↔ x ∈ Q) : Bst f F Q :=
  ⟨fun x => by
    rw [h.mem, e]
    exact ⟨fun ⟨h1, h2⟩ => ⟨h1, fun z hz => h2 z ((e z).2 hz)⟩, fun ⟨h1, h2⟩ => ⟨h1, fun z hz => h2 z ((e z).1 hz)⟩⟩, h.nd⟩
/-- items that are all beaten by a found one change nothing -/
theorem Bst.more {f : List Int} {F P M : List Itm} (h : Bst f F P) {y : Itm} (hy : y ∈ F) (hM : ∀ x, x ∈ M → lwr f y.vals x.vals = true) : Bst f F (P ++ M) := by
  refine ⟨fun x => ?_, h.nd⟩
  have hyP := ((h.mem y).1 hy).1
  constructor
  · intro hx
    obtain ⟨h1, h2⟩ := (h.mem x).1 hx
    refine ⟨List.mem_append_left _ h1, fun z hz => ?_⟩
    rcases List.mem_append.1 hz with hz | hz
    · exact h2 z hz
    · cases hl : lwr f z.vals x.vals with
      | false => rfl
      | true => exact absurd (h2 y hyP) (by rw [lwr_trans (hM z hz) hl]; decide)
  · rintro ⟨h1, h2⟩
    rcases List.mem_append.1 h1 with h1 | h1
    · exact (h.mem x).2 ⟨h1, fun z hz => h2 z (List.mem_append_left _ hz)⟩
    · exact absurd (h2 y (List.mem_append_left _ hyP)) (by rw [hM x h1]; decide)
theorem Bst.add {f : List Int} (hf : isFieldList f = true) {F P : List Itm} (h : Bst f F P) {x : Itm} (hx : x ∉ P) : Bst f (addB f F x) (P ++ [x]) := by
  unfold addB
  split
  · rename_i hc
    obtain ⟨y, hy, hl⟩ := cut_iff.1 hc
    exact h.more hy fun z hz => by rw [List.mem_singleton] at hz; rw [hz]; exact hl
  · rename_i hc
    have hno : ∀ z, z ∈ P → lwr f z.vals x.vals = false := fun z hz => by
      cases hl : lwr f z.vals x.vals with
      | false => rfl
      | true =>
        obtain ⟨t, ht, htx, hta⟩ := lwr_top hf hz hl
        exact absurd (cut_iff.2 ⟨t, (h.mem t).2 ⟨ht, hta⟩, htx⟩) hc
    refine ⟨fun z => ?_, ?_⟩
    · rw [List.mem_append, List.mem_filter, List.mem_singleton]
      constructor
      · rintro (⟨h1, h2⟩ | rfl)
        · obtain ⟨h3, h4⟩ := (h.mem z).1 h1
          refine ⟨List.mem_append_left _ h3, fun u hu => ?_⟩
          rcases List.mem_append.1 hu with hu | hu
          · exact h4 u hu
          · rw [List.mem_singleton] at hu
            rw [hu]; simpa using h2
        · refine ⟨by simp, fun u hu => ?_⟩
          rcases List.mem_append.1 hu with hu | hu
          · exact hno u hu
          · rw [List.mem_singleton] at hu
            rw [hu]; exact lwr_irr _ _
      · rintro ⟨h1, h2⟩
        rcases List.mem_append.1 h1 with h1 | h1
        · left
          exact ⟨(h.mem z).2 ⟨h1, fun u hu => h2 u (List.mem_append_left _ hu)⟩, by rw [h2 x (by simp)]; rfl⟩
        · right; exact List.mem_singleton.1 h1
    · rw [List.nodup_append]
      refine ⟨h.nd.filter _, by simp, fun a ha b hb he => ?_⟩
      rw [List.mem_singleton] at hb
      rw [he, hb] at ha
      exact hx ((h.mem x).1 (List.mem_filter.1 ha).1).1
theorem leafN_bst {f : List Int} (hf : isFieldList f = true) {M P : List Itm} {S : List Itm × Nat} (h : Bst f S.1 P) (hnd : (P ++ M).Nodup) : ∀ k, k ≤ M.length → Bst f (leafN f M S k).1 (P ++ M.take k)
  | 0, _ => by simpa [leafN] using h
  | k + 1, hk => by
    have ih := leafN_bst hf h hnd k (by omega)
    rw [leafN, take_gi (show k < M.length by omega), ← List.append_assoc]
    refine ih.add hf fun hm => ?_
    have h2 : (P ++ (M.take k ++ [gi M (k : Int)])).Nodup := by
      rw [← take_gi (show k < M.length by omega)]
      exact hnd.sublist (List.Sublist.append_left (List.take_sublist _ _) _)
    rw [← List.append_assoc] at h2
    exact (List.nodup_append.1 h2).2.2 _ hm _ (by simp) rfl
theorem crn_le {M : List Itm} (h : ∀ i : Nat, i < M.length → (gi M (i : Int)).vals.length = 3) {j : Nat} (hj : j < 3) : ∀ n, n ≤ M.length → ∀ i : Nat, i < n → gi (crn M n) (j : Int) ≤ gi (gi M (i : Int)).vals (j : Int)
  | 0, _, i, hi => by omega
  | n + 1, hn, i, hi => by
    have ih := crn_le h hj n (by omega)
    have h1 := crn_len h (by omega) n (by omega)
    have h2 := h n (by omega)
    rw [crn_succ, minL_at (by omega) (by omega)]
    rcases Nat.lt_or_ge i n with hi' | hi'
    · have := ih i hi'; omega
    · obtain rfl : i = n := by omega
      omega
theorem crn_beats {f : List Int} (hf : isFieldList f = true) {M : List Itm} (h : ∀ i : Nat, i < M.length → (gi M (i : Int)).vals.length = 3) {y x : Itm} (hy : lwr f y.vals (crn M M.length) = true) (hx : x ∈ M) : lwr f y.vals x.vals = true := by
  obtain ⟨i, hi, rfl⟩ := mem_gi hx
  refine lwr_le hy fun k hk => ?_
  obtain ⟨h0, h2⟩ := field_at hf hk
  generalize gi f (k : Int) = q at *
  obtain ⟨j, rfl⟩ : ∃ j : Nat, q = j := ⟨q.toNat, by omega⟩
  exact crn_le h (by omega) M.length (Nat.le_refl _) i hi
theorem boxP_bst {f : List Int} (hf : isFieldList f = true) : ∀ (N : Nat) (M : List Itm) (d : Nat) (S : List Itm × Nat) (P : List Itm), M.length ≤ N → (∀ x, x ∈ M → x.vals.length = 3) → (P ++ M).Nodup → Bst f S.1 P → Bst f (boxP f N M d S).1 (P ++ M)
  | 0, M, d, S, P, hN, _, _, h => by
    rw [List.length_eq_zero_iff.1 (show M.length = 0 by omega), List.append_nil]; exact h
  | N + 1, M, d, S, P, hN, hv, hnd, h => by
    by_cases h0 : M.length = 0
    · rw [box_nil h0, List.length_eq_zero_iff.1 h0, List.append_nil]; exact h
    by_cases hc : cut f S.1 (crn M M.length) = true
    · rw [box_cut h0 hc]
      obtain ⟨y, hy, hl⟩ := cut_iff.1 hc
      exact h.more hy fun x hx => crn_beats hf (fun i hi => hv _ (giM_mem hi)) hl hx
    replace hc : cut f S.1 (crn M M.length) = false := by simpa using hc
    by_cases h2 : 2 < M.length
    · rw [box_more hc h2]
      generalize hB : byF M (gi f ((d % f.length : Nat) : Int)) = B
      have hp : B.Perm M := by rw [← hB]; exact sortP_perm _ _
      have hlB : B.length = M.length := hp.length_eq
      have hndB : (P ++ B).Nodup := ((hp.append_left P).nodup_iff).2 hnd
      have hvB : ∀ x, x ∈ B → x.vals.length = 3 := fun x hx => hv x (hp.mem_iff.1 hx)
      have i1 := boxP_bst hf N (B.take (M.length / 2)) (d + 1) S P (by rw [List.length_take]; omega) (fun x hx => hvB x (List.mem_of_mem_take hx)) (hndB.sublist (List.Sublist.append_left (List.take_sublist _ _) _)) h
      have i2 := boxP_bst hf N (B.drop (M.length / 2)) (d + 1) _ (P ++ B.take (M.length / 2)) (by rw [List.length_drop]; omega) (fun x hx => hvB x (List.mem_of_mem_drop hx)) (by rw [List.append_assoc, List.take_append_drop]; exact hndB) i1
      rw [List.append_assoc, List.take_append_drop] at i2
      exact i2.congr fun x => by rw [List.mem_append, List.mem_append, hp.mem_iff]
    · rw [box_leaf h0 hc h2]
      have := leafN_bst hf h hnd M.length (Nat.le_refl _)
      rwa [List.take_of_length_le (Nat.le_refl _)] at this
theorem best_up {L : List Itm} (e : List Nod) (h : IdsUp L) : AscI (bestL L e) := pickN_up h L.length (Nat.le_refl _)
theorem up_inj {L : List Itm} (h : IdsUp L) : IdInj L := by
  intro x y hx hy he
  obtain ⟨i, hi, rfl⟩ := mem_gi hx
  obtain ⟨j, hj, rfl⟩ := mem_gi hy
  rcases Nat.lt_trichotomy i j with h1 | h1 | h1
  · have := up_lt h h1 hj; omega
  · rw [h1]
  · have := up_lt h h1 hi; omega
theorem box_best {L : List Itm} {f : List Int} (hL : areItems L = true) (hf : isFieldList f = true) : (boxBest L f).1 = bestItems L (lowE f) := by
  have hfi : fine L (lowE f) = true := by rw [fine, hL, lowE_expr hf]; rfl
  have hup := items_up hL
  have hinj := areItems_inj hL
  have hnd : ([] ++ L).Nodup := by
    rw [List.nil_append, List.nodup_iff_pairwise_ne]
    exact hup.imp fun h e => by rw [e] at h; omega
  have hB := boxP_bst hf L.length L 0 ([], 0) [] (Nat.le_refl _) (fun x hx => by
    obtain ⟨i, hi, rfl⟩ := mem_gi hx
    exact isItem_len ((areItems_at hL).1 i hi)) hnd ⟨fun x => by simp, List.nodup_nil⟩
  rw [List.nil_append] at hB
  unfold boxBest
  rw [hL, hf, bestItems_fine hfi]
  show sortP id (idsOf (boxP f L.length L 0 ([], 0)).1) = _
  generalize (boxP f L.length L 0 ([], 0)).1 = F at *
  refine ascI_ext (ascI_sort ?_) (best_up _ hup) fun y => ?_
  · rw [idsOf, List.nodup_iff_pairwise_ne, List.pairwise_map]
    exact (List.nodup_iff_pairwise_ne.1 hB.nd).imp_of_mem fun ha hb hne he => hne (hinj _ _ ((hB.mem _).1 ha).1 ((hB.mem _).1 hb).1 he)
  · rw [(sortP_perm id _).mem_iff, idsOf, List.mem_map]
    constructor
    · rintro ⟨x, hx, rfl⟩
      obtain ⟨h1, h2⟩ := (hB.mem x).1 hx
      exact (best_iff hinj h1).2 fun z hz hc => by
        have := h2 z hz
        rw [(lwr_better hf z x).2 hc] at this; cases this
    · intro hy
      obtain ⟨x, hx, rfl⟩ := best_sub hy
      refine ⟨x, (hB.mem x).2 ⟨hx, fun z hz => ?_⟩, rfl⟩
      cases hl : lwr f z.vals x.vals with
      | false => rfl
      | true => exact absurd ((lwr_better hf z x).1 hl) ((best_iff hinj hx).1 hy z hz)
theorem box_visited (L : List Itm) (f : List Int) : (boxBest L f).2 ≤ (L.length : Int) := by
  unfold boxBest
  split
  · have := (boxP_bd f L.length L 0 ([], 0)).2
    dsimp only at *; omega
  · dsimp only; omega
theorem ord_sorted (L : List Itm) (k : Int) : ((ordL L k).map fun i => fval k (gi L i)).Pairwise (· ≤ ·) := by
  have := sortP_sorted ((iota 0 L.length).map fun i => fval k (gi L i))
  rw [sortP_map] at this
  exact this
theorem ord_le {L : List Itm} {k : Int} {n m : Nat} (hnm : n ≤ m) (hm : m < L.length) : fval k (gi L (gi (ordL L k) (n : Int))) ≤ fval k (gi L (gi (ordL L k) (m : Int))) := by
  rcases Nat.lt_or_ge n m with h | h
  · have := List.pairwise_iff_getElem.1 (ord_sorted L k) n m (by rw [List.length_map, ordL_len]; omega) (by rw [List.length_map, ordL_len]; omega) h
    rw [List.getElem_map, List.getElem_map] at this
    rw [gi_lt (show n < (ordL L k).length by rw [ordL_len]; omega), gi_lt (show m < (ordL L k).length by rw [ordL_len]; omega)]
    exact this
  · obtain rfl : n = m := by omega
    exact Int.le_refl _
theorem ord_place {L : List Itm} {k : Int} {i : Nat} (hi : i < L.length) : ∃ j : Nat, j < L.length ∧ gi (ordL L k) (j : Int) = (i : Int) := by
  obtain ⟨j, hj, he⟩ := List.getElem_of_mem (ordL_mem (L := L) (k := k) (y := (i : Int)).2 ⟨by omega, by omega⟩)
  exact ⟨j, by rw [ordL_len] at hj; exact hj, by rw [gi_lt hj]; exact he⟩
theorem ord_in {L : List Itm} {k : Int} {n j : Nat} (hj : j < L.length) (hn : j < n) : gi (ordL L k) (j : Int) ∈ (ordL L k).take n := by
  rw [gi_lt (show j < (ordL L k).length by rw [ordL_len]; exact hj)]
  exact List.mem_take_iff_getElem.2 ⟨j, by rw [ordL_len]; omega, rfl⟩
theorem in_ord {L : List Itm} {k i : Int} {n : Nat} (h : i ∈ (ordL L k).take n) : ∃ j : Nat, j < n ∧ j < L.length ∧ gi (ordL L k) (j : Int) = i := by
  obtain ⟨j, hj, he⟩ := List.mem_take_iff_getElem.1 h
  rw [ordL_len] at hj
  exact ⟨j, by omega, by omega, by rw [gi_lt (show j < (ordL L k).length by rw [ordL_len]; omega)]; exact he⟩
theorem cq_full {L : List Itm} {f : List Int} {n : Nat} {i : Int} : ∀ a, cq L f n 0 i a = a → ∀ b, b < a → inO L (gi f (b : Int)) n i = 1
  | 0, _, b, hb => by omega
  | a + 1, h, b, hb => by
    rw [cq, if_neg (show ¬ a < 0 by omega)] at h
    have h1 := cq_le L f n 0 i a
    have h2 := inO_le L (gi f (a : Int)) n i
    rcases Nat.lt_or_ge b a with hb' | hb'
    · exact cq_full a (by omega) b hb'
    · obtain rfl : b = a := by omega
      omega
theorem cq_none {L : List Itm} {f : List Int} {n : Nat} {i : Int} : ∀ a, cq L f n 0 i a = 0 → ∀ b, b < a → inO L (gi f (b : Int)) n i = 0
  | 0, _, b, hb => by omega
  | a + 1, h, b, hb => by
    rw [cq, if_neg (show ¬ a < 0 by omega)] at h
    rcases Nat.lt_or_ge b a with hb' | hb'
    · exact cq_none a (by omega) b hb'
    · obtain rfl : b = a := by omega
      omega
theorem endF_how (L : List Itm) (f : List Int) : ∀ d, d ≤ L.length → endF L f d = L.length ∨ (endF L f d < L.length ∧ stp L f (endF L f d) = true)
  | 0, _ => .inl rfl
  | d + 1, hd => by
    rw [endF]
    split
    · rename_i h
      exact .inr ⟨by omega, h⟩
    · exact endF_how L f d (by omega)
theorem seen_dom {L : List Itm} {f : List Int} (hf : isFieldList f = true) {x : Itm} (hx : x ∈ L) : x ∈ seenI L f ∨ ∃ z, z ∈ seenI L f ∧ cmpE (lowE f) z x = 1 := by
  obtain ⟨i, hi, rfl⟩ := mem_gi hx
  have hpos : 0 < f.length := (lowE_tree hf).2.2
  by_cases hc : 0 < cnt L f (endN L f) (i : Int)
  · exact .inl ((pickI_mem _).2 ⟨i, hi, decide_eq_true hc, rfl⟩)
  right
  have hz := cq_none f.length (show cq L f (endN L f) 0 (i : Int) f.length = 0 by unfold cnt at hc; omega)
  have hout : ∀ b, b < f.length → ∃ j : Nat, endN L f ≤ j ∧ j < L.length ∧ gi (ordL L (gi f (b : Int))) (j : Int) = (i : Int) := by
    intro b hb
    obtain ⟨j, hj, he⟩ := ord_place (k := gi f (b : Int)) hi
    refine ⟨j, ?_, hj, he⟩
    rcases Nat.lt_or_ge j (endN L f) with h | h
    · have h1 := ord_in (k := gi f (b : Int)) hj h
      rw [he] at h1
      have h2 := hz b hb
      rw [inO, if_pos h1] at h2; omega
    · exact h
  rcases endF_how L f L.length (Nat.le_refl _) with h | ⟨h1, h2⟩
  · obtain ⟨j, h1, h2, _⟩ := hout 0 hpos
    rw [endN, h] at h1; omega
  obtain ⟨i0, hi0, h3⟩ := exB_iff.1 h2
  rw [Bool.and_eq_true, exB_iff] at h3
  obtain ⟨h4, k, hk, h5⟩ := h3
  have h4 := of_decide_eq_true h4
  have h5 := of_decide_eq_true h5
  have hful := cq_full f.length h4
  have hle : ∀ b, b < f.length → fval (gi f (b : Int)) (gi L (i0 : Int)) ≤ fval (gi f (b : Int)) (gi L (i : Int)) := by
    intro b hb
    obtain ⟨j, q1, q2, q3⟩ := hout b hb
    have h6 := hful b hb
    rw [inO] at h6
    split at h6
    · rename_i hm
      obtain ⟨j0, p1, p2, p3⟩ := in_ord hm
      have := ord_le (L := L) (k := gi f (b : Int)) (n := j0) (m := j) (by unfold endN at q1; omega) q2
      rwa [p3, q3] at this
    · omega
  refine ⟨gi L (i0 : Int), (pickI_mem _).2 ⟨i0, hi0, decide_eq_true (by show 0 < cnt L f (endF L f L.length) (i0 : Int); omega), rfl⟩, (low_better hf _ _).2 ⟨allB_true fun b hb => decide_eq_true (hle b hb), allB_false hk (decide_eq_false ?_)⟩⟩
  obtain ⟨j, q1, q2, q3⟩ := hout k hk
  have h6 := ord_le (L := L) (k := gi f (k : Int)) q1 q2
  rw [q3] at h6
  rw [byF_at h1] at h5
  unfold endN at h6
  omega
theorem sorted_best {L : List Itm} {f : List Int} (hL : areItems L = true) (hf : isFieldList f = true) : (sortedBest L f).1 = bestItems L (lowE f) := by
  have hex := lowE_expr hf
  have hfi : fine L (lowE f) = true := by rw [fine, hL, hex]; rfl
  have hup := items_up hL
  have hinj := areItems_inj hL
  have hus : IdsUp (seenI L f) := pickI_up hup _ (Nat.le_refl _)
  have his := up_inj hus
  have hsub : ∀ x, x ∈ seenI L f → x ∈ L := fun x hx => by
    obtain ⟨i, hi, _, rfl⟩ := (pickI_mem _).1 hx
    exact giM_mem hi
  unfold sortedBest
  rw [hL, hf, bestItems_fine hfi]
  show bestL (seenI L f) (lowE f) = _
  refine ascI_ext (best_up _ hus) (best_up _ hup) fun y => ?_
  constructor
  · intro hy
    obtain ⟨x, hx, rfl⟩ := best_sub hy
    have hb := (best_iff his hx).1 hy
    refine (best_iff hinj (hsub x hx)).2 fun z hz hc => ?_
    rcases seen_dom hf hz with hz | ⟨t, ht, htz⟩
    · exact hb z hz hc
    · have := (cmpE_ok hex).trans _ _ _ (.inr htz) (.inr hc)
      rw [htz, hc] at this
      exact hb t ht this
  · intro hy
    obtain ⟨x, hx, rfl⟩ := best_sub hy
    have hb := (best_iff hinj hx).1 hy
    rcases seen_dom hf hx with hs | ⟨t, ht, htx⟩
    · exact (best_iff his hs).2 fun z hz => hb z (hsub z hz)
    · exact absurd htx (hb t (hsub t ht))
theorem sorted_reads (L : List Itm) (f : List Int) : (sortedBest L f).2 ≤ (L.length : Int) * (f.length : Int) := by
  unfold sortedBest
  split
  · dsimp only
    exact Int.mul_le_mul_of_nonneg_right (by have := endF_le L f L.length; unfold endN; omega) (by omega)
  · dsimp only
    exact Int.mul_nonneg (by omega) (by omega)
theorem none_best {L : List Itm} {f : List Int} (h : isFieldList f = false ∨ areItems L = false) : (sortedBest L f).1 = [] ∧ (boxBest L f).1 = [] := by
  unfold sortedBest boxBest
  rcases h with h | h
  · rw [h, Bool.and_false]; exact ⟨rfl, rfl⟩
  · rw [h, Bool.false_and]; exact ⟨rfl, rfl⟩
end Go.E

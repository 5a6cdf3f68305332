/-
  Plain laws: dividing gives the best items; one pass is enough with a large window. Conditions: as stated.
-/
import Derived.Test.YtdenoambgonomaaGreatM6
import Derived.Test.YtdenoambgonomaaGreatBk
import Derived.Test.YtdenoambgonomaaGreatPb
set_option linter.unusedVariables false
set_option linter.unusedSimpArgs false
namespace Go.E
open Go Go.RowKit Go.Proofs
def Asc (xs : List Int) : Prop := xs.Pairwise fun a b => a < b
theorem asc_ext : ∀ {a b : List Int}, Asc a → Asc b → (∀ x, x ∈ a ↔ x ∈ b) → a = b
  | [], [], _, _, _ => rfl
  | [], y :: s, _, _, h => by have := (h y).2 (by simp); cases this
  | x :: r, [], _, _, h => by have := (h x).1 (by simp); cases this
  | x :: r, y :: s, ha, hb, h => by
    obtain ⟨a1, a2⟩ := List.pairwise_cons.1 ha
    obtain ⟨b1, b2⟩ := List.pairwise_cons.1 hb
    have hxy : x = y := by
      have h1 := (h x).1 (by simp)
      have h2 := (h y).2 (by simp)
      rcases List.mem_cons.1 h1 with h1 | h1
      · exact h1
      · rcases List.mem_cons.1 h2 with h2 | h2
        · exact h2.symm
        · have := b1 x h1; have := a1 y h2; omega
    subst hxy
    congr 1
    refine asc_ext a2 b2 fun z => ?_
    constructor
    · intro hz
      rcases List.mem_cons.1 ((h z).1 (List.mem_cons_of_mem _ hz)) with h1 | h1
      · have := a1 z hz; omega
      · exact h1
    · intro hz
      rcases List.mem_cons.1 ((h z).2 (List.mem_cons_of_mem _ hz)) with h1 | h1
      · have := b1 z hz; omega
      · exact h1
theorem asc_sort {xs : List Int} (h : xs.Nodup) : Asc (sortP id xs) := by
  have h1 := sortP_sorted xs
  have h2 : (sortP id xs).Nodup := (sortP_perm id xs).nodup_iff.2 h
  have h3 := h1.and h2
  exact h3.imp fun ⟨h4, h5⟩ => by omega
def IdAsc (M : List Itm) : Prop := M.Pairwise fun x y => x.id < y.id
theorem items_asc {L : List Itm} (h : areItems L = true) : IdAsc L := by
  rw [IdAsc, List.pairwise_iff_getElem]
  intro i j hi hj hij
  have := id_lt h hij hj
  rwa [gi_lt hi, gi_lt hj] at this
theorem asc_ids {M : List Itm} (h : IdAsc M) : Asc (idsOf M) := by
  rw [Asc, idsOf, List.pairwise_map]; exact h
def topOf (e : List Nod) (M : List Itm) (y : Int) : Prop := ∃ x, x ∈ M ∧ x.id = y ∧ ∀ z, z ∈ M → cmpE e z x ≠ 1
theorem mem_mrgU {L : List Itm} {e : List Nod} {a b : List Int} {y : Int} : y ∈ mrg L e a b ↔ (y ∈ a ∧ survB L e b y = true) ∨ (y ∈ b ∧ survB L e a y = true) := by
  rw [mrg, (sortP_perm id (mrgU L e a b)).mem_iff, mrgU, List.mem_append, keepP, keepP, List.mem_filter, List.mem_filter]
theorem surv_top {L : List Itm} {e : List Nod} (hex : isExpr e = true) (hL : IdInj L) {M : List Itm} {o : List Int} (hM : ∀ x, x ∈ M → x ∈ L) (ho : ∀ y, y ∈ o ↔ topOf e M y) {x : Itm} (hx : x ∈ L) : survB L e o x.id = true ↔ ∀ z, z ∈ M → cmpE e z x ≠ 1 := by
  have hix : itId L x.id = x := find_gi hL hx
  constructor
  · intro h z hz hc
    obtain ⟨t, ht, htx, hta⟩ := top_above (cmpE_ok hex) hz hc
    have hto : t.id ∈ o := (ho t.id).2 ⟨t, ht, rfl, hta⟩
    obtain ⟨k, hk, hke⟩ := List.getElem_of_mem hto
    have h2 := List.all_eq_true.1 h k (by simpa using hk)
    rw [gi_lt hk, hke, hix, show itId L t.id = t from find_gi hL (hM t ht)] at h2
    simp at h2
    exact h2 htx
  · intro h
    refine allB_true fun k hk => ?_
    have hm : gi o (k : Int) ∈ o := by rw [gi_lt hk]; exact List.getElem_mem _
    obtain ⟨t, ht, hte, _⟩ := (ho _).1 hm
    rw [hix, ← hte, show itId L t.id = t from find_gi hL (hM t ht)]
    simpa using h t ht
theorem divP_top {L : List Itm} {e : List Nod} (hex : isExpr e = true) (hL : IdInj L) : ∀ (n : Nat) (M : List Itm), (∀ x, x ∈ M → x ∈ L) → IdAsc M → M.length ≤ n → Asc (divP L e n M).1 ∧ ∀ y, y ∈ (divP L e n M).1 ↔ topOf e M y := by
  have one : ∀ M : List Itm, M.length ≤ 1 → ∀ y, y ∈ idsOf M ↔ topOf e M y := by
    intro M hM y
    match M, hM with
    | [], _ => simp [idsOf, topOf]
    | [x], _ =>
      simp only [idsOf, List.map_cons, List.map_nil, List.mem_singleton, topOf]
      constructor
      · rintro rfl
        exact ⟨x, rfl, rfl, fun z hz => by rw [hz, (cmpE_ok hex).refl]; decide⟩
      · rintro ⟨z, rfl, rfl, _⟩; rfl
  intro n
  induction n with
  | zero =>
    intro M hs ha hn
    rw [divP_one (by omega)]
    exact ⟨asc_ids ha, one M (by omega)⟩
  | succ n ih =>
    intro M hs ha hn
    by_cases h1 : M.length ≤ 1
    · rw [divP_one h1]; exact ⟨asc_ids ha, one M h1⟩
    rw [divP_more h1]
    dsimp only
    generalize hk : M.length / 2 = k
    have e1 : (M.take k).length = k := by rw [List.length_take]; omega
    have e2 : (M.drop k).length = M.length - k := List.length_drop
    have s1 : ∀ x, x ∈ M.take k → x ∈ M := fun x hx => List.mem_of_mem_take hx
    have s2 : ∀ x, x ∈ M.drop k → x ∈ M := fun x hx => List.mem_of_mem_drop hx
    have hsplit : ∀ x, x ∈ M ↔ x ∈ M.take k ∨ x ∈ M.drop k := fun x => by rw [← List.mem_append, List.take_append_drop]
    have hcross : ∀ x, x ∈ M.take k → ∀ y, y ∈ M.drop k → x.id < y.id := by
      have : (M.take k ++ M.drop k).Pairwise fun x y => x.id < y.id := by rw [List.take_append_drop]; exact ha
      exact (List.pairwise_append.1 this).2.2
    have a1 : IdAsc (M.take k) := List.Pairwise.sublist (List.take_sublist _ _) ha
    have a2 : IdAsc (M.drop k) := List.Pairwise.sublist (List.drop_sublist _ _) ha
    obtain ⟨p1, q1⟩ := ih (M.take k) (fun x hx => hs x (s1 x hx)) a1 (by omega)
    obtain ⟨p2, q2⟩ := ih (M.drop k) (fun x hx => hs x (s2 x hx)) a2 (by omega)
    generalize (divP L e n (M.take k)).1 = a at *
    generalize (divP L e n (M.drop k)).1 = b at *
    constructor
    · have hnd : ∀ {xs : List Int}, Asc xs → xs.Nodup := fun h => h.imp fun h => by omega
      refine asc_sort ?_
      rw [mrgU, List.nodup_append]
      refine ⟨(hnd p1).filter _, (hnd p2).filter _, fun x hx y hy he => ?_⟩
      obtain ⟨u, hu, hue, _⟩ := (q1 x).1 (List.mem_filter.1 hx).1
      obtain ⟨v, hv, hve, _⟩ := (q2 y).1 (List.mem_filter.1 hy).1
      have := hcross u hu v hv
      omega
    · intro y
      rw [mem_mrgU]
      constructor
      · rintro (⟨hy, hsv⟩ | ⟨hy, hsv⟩)
        · obtain ⟨x, hx, rfl, hxt⟩ := (q1 y).1 hy
          have := (surv_top hex hL (fun x hx => hs x (s2 x hx)) q2 (hs x (s1 x hx))).1 hsv
          exact ⟨x, s1 x hx, rfl, fun z hz => ((hsplit z).1 hz).elim (hxt z) (this z)⟩
        · obtain ⟨x, hx, rfl, hxt⟩ := (q2 y).1 hy
          have := (surv_top hex hL (fun x hx => hs x (s1 x hx)) q1 (hs x (s2 x hx))).1 hsv
          exact ⟨x, s2 x hx, rfl, fun z hz => ((hsplit z).1 hz).elim (this z) (hxt z)⟩
      · rintro ⟨x, hx, rfl, hxt⟩
        rcases (hsplit x).1 hx with h | h
        · exact .inl ⟨(q1 _).2 ⟨x, h, rfl, fun z hz => hxt z (s1 z hz)⟩, (surv_top hex hL (fun x hx => hs x (s2 x hx)) q2 (hs x hx)).2 fun z hz => hxt z (s2 z hz)⟩
        · exact .inr ⟨(q2 _).2 ⟨x, h, rfl, fun z hz => hxt z (s2 z hz)⟩, (surv_top hex hL (fun x hx => hs x (s1 x hx)) q1 (hs x hx)).2 fun z hz => hxt z (s1 z hz)⟩
theorem pickN_asc {L : List Itm} {p : Nat → Bool} (h : areItems L = true) : ∀ n : Nat, n ≤ L.length → Asc (pickN L p n) := by
  intro n
  induction n with
  | zero => intro _; exact List.Pairwise.nil
  | succ n ih =>
    intro hn
    have ih := ih (by omega)
    by_cases hp : p n = true
    · rw [pickN_t hp, Asc, List.pairwise_append]
      refine ⟨ih, List.pairwise_singleton _ _, fun a ha b hb => ?_⟩
      rw [List.mem_singleton] at hb
      obtain ⟨i, hi, _, rfl⟩ := pickN_mem ha
      rw [hb]
      exact id_lt h hi (by omega)
    · rw [pickN_f (by simpa using hp)]; exact ih
theorem divide_best {L : List Itm} {e : List Nod} (h : fine L e = true) : (divide L e).1 = bestItems L e := by
  obtain ⟨hi, hex, ha⟩ := fine_parts h
  rw [divide, if_pos h, bestItems_fine h]
  obtain ⟨p, q⟩ := divP_top hex hi L.length L (fun x hx => hx) (items_asc ha) (Nat.le_refl _)
  refine asc_ext p (pickN_asc ha L.length (Nat.le_refl _)) fun y => ?_
  rw [q]
  constructor
  · rintro ⟨x, hx, rfl, hxt⟩
    exact (best_iff hi hx).2 hxt
  · intro hy
    obtain ⟨x, hx, rfl⟩ := best_sub hy
    exact ⟨x, hx, rfl, (best_iff hi hx).1 hy⟩
theorem divide_tests {L : List Itm} {e : List Nod} (h : fine L e = true) : 2 * (divide L e).2 ≤ (L.length : Int) * ((L.length : Int) - 1) := by
  rw [divide, if_pos h]; exact (divP_tests L.length L).2
theorem block_passes (L : List Itm) (e : List Nod) (q : Int) : ((blockBest L e q).2 : Int) ≤ L.length := by
  unfold blockBest
  split
  · have := (blockP_len L e q.toNat L.length (List.range L.length)).2
    dsimp only; omega
  · simp
theorem pass_one {L : List Itm} {e : List Nod} {win : Nat} {ps : List Nat} (hw : ps.length ≤ win) : ∀ n : Nat, n ≤ ps.length → (passN L e win ps n).2 = [] ∧ ∀ x, x ∈ (passN L e win ps n).1 → x.2 = true
  | 0, _ => by simp [passN]
  | n + 1, hn => by
    obtain ⟨h1, h2⟩ := pass_one (L := L) (e := e) hw n (by omega)
    have hl := passN_len L e win ps n
    have hb := bIns_len L e (gi ps (n : Int)) (passN L e win ps n).1
    rw [passN, stepB]
    split
    · exact ⟨h1, h2⟩
    · rw [if_pos (by omega)]
      refine ⟨h1, fun x hx => ?_⟩
      rcases List.mem_append.1 hx with hx | hx
      · exact h2 x (List.mem_filter.1 hx).1
      · rw [List.mem_singleton] at hx; rw [hx, h1]; rfl
theorem block_one {L : List Itm} {e : List Nod} {q : Int} (h : fine L e = true) (h1 : (L.length : Int) ≤ q) (h2 : q ≤ 16) : ((blockBest L e q).2 : Int) = if 0 < L.length then 1 else 0 := by
  unfold blockBest
  by_cases hq : inR q 1 16 = true
  · rw [if_pos (by rw [h, hq]; rfl)]
    dsimp only
    cases hl : L.length with
    | zero => simp [blockP]
    | succ n =>
      obtain ⟨p1, p2⟩ := pass_one (L := L) (e := e) (win := q.toNat) (ps := List.range (n + 1)) (by rw [List.length_range]; omega) (n + 1) (by rw [List.length_range]; omega)
      have hlate : lateP (passN L e q.toNat (List.range (n + 1)) (n + 1)).1 = [] := by
        unfold lateP
        rw [List.map_eq_nil_iff, List.filter_eq_nil_iff]
        intro x hx; simp [p2 x hx]
      rw [blockP, if_neg (by simp)]
      simp only [List.length_range]
      rw [p1, hlate, List.nil_append, blockP_nil]; simp
  · rw [if_neg (by simp [h]; simpa using hq)]
    have : ¬ (1 ≤ q) := fun h3 => hq (by simp [inR]; omega)
    rw [if_neg (by omega)]; rfl
end Go.E

/-
  Contracts: looking for a number in a slice, for an item by its number; valid items; their numbers. Conditions: as stated.
-/
import Derived.Test.YtnlleecmnjnphaaGreatBs
import Derived.Test.YtnlleecmnjnphaaGreatIt
set_option linter.unusedVariables false
set_option linter.unusedSimpArgs false
namespace Go.E
open Go Go.RowKit Go.Proofs
attribute [local irreducible] W WL WD WE thenE inE retQ PureOp Keep Cell Cells Blk Sl Rows Own Src Fresh

/-- the first number below n that f holds at; -1 where there is none -/
def idxB (n : Nat) (f : Nat → Bool) : Int := match (List.range n).find? f with
  | some k => (k : Int)
  | none => -1
theorem idxB_hit {n k : Nat} {f : Nat → Bool} (hk : k < n) (h : ∀ i, i < k → f i = false) (hf : f k = true) : idxB n f = (k : Int) := by
  have : (List.range n).find? f = some k := by
    rw [List.find?_range_eq_some]
    exact ⟨hf, List.mem_range.2 hk, fun j hj => by simp [h j hj]⟩
  rw [idxB, this]
theorem idxB_none {n : Nat} {f : Nat → Bool} (h : ∀ i, i < n → f i = false) : idxB n f = -1 := by
  have : (List.range n).find? f = none := by
    rw [List.find?_eq_none]
    intro x hx; simp [h x (List.mem_range.1 hx)]
  rw [idxB, this]
theorem idxB_cases (n : Nat) (f : Nat → Bool) : (idxB n f = -1 ∧ ∀ i, i < n → f i = false) ∨ ∃ k : Nat, idxB n f = (k : Int) ∧ k < n ∧ f k = true ∧ ∀ i, i < k → f i = false := by
  unfold idxB
  cases hf : (List.range n).find? f with
  | none =>
    refine .inl ⟨rfl, fun i hi => ?_⟩
    rw [List.find?_eq_none] at hf
    simpa using hf i (List.mem_range.2 hi)
  | some k =>
    rw [List.find?_range_eq_some] at hf
    exact .inr ⟨k, rfl, List.mem_range.1 hf.2.1, hf.1, fun i hi => by simpa using hf.2.2 i hi⟩
theorem all_no {k : Nat} {f : Nat → Bool} (h : ∀ i, i < k → f i = false) (hk : f k = false) : ∀ i, i < k + 1 → f i = false := by
  intro i hi
  rcases Nat.lt_or_ge i k with h1 | h1
  · exact h i h1
  · have : i = k := by omega
    subst this; exact hk
def idxI (xs : List Int) (y : Int) : Int := idxB xs.length fun i => decide (gi xs (i : Int) = y)
def hasI (xs : List Int) (y : Int) : Bool := decide (0 ≤ idxI xs y)
theorem hasI_iff {xs : List Int} {y : Int} : hasI xs y = true ↔ y ∈ xs := by
  unfold hasI idxI
  rw [decide_eq_true_eq]
  rcases idxB_cases xs.length fun i => decide (gi xs (i : Int) = y) with ⟨h1, h2⟩ | ⟨k, h1, h2, h3, h4⟩
  · rw [h1]
    refine ⟨fun h => by omega, fun h => ?_⟩
    obtain ⟨i, hi, he⟩ := List.getElem_of_mem h
    have := h2 i hi
    rw [gi_lt hi] at this
    simp [he] at this
  · rw [h1]
    refine ⟨fun _ => ?_, fun _ => by omega⟩
    simp at h3
    rw [gi_lt h2] at h3
    exact h3 ▸ List.getElem_mem h2
def findI (L : List Itm) (id : Int) : Int := idxB L.length fun i => decide ((gi L (i : Int)).id = id)

theorem slices_Index_ok {w : World} {v : Value} {xs : List Int} {fp : List Nat} {y : Int} (hx : Sl intR w v xs fp) : Run Tryz.prog 114 [v, .int .i64 y] w (fun r w' => r = .int .i64 (idxI xs y) ∧ w = w') := by
  have hn := hx.le
  obtain ⟨A, n, c, rfl, hnx⟩ := hx.split
  refine Run_intro Tryz.func114 (by unfold CallOk; kernel_rfl) rfl Tryz.ntmps114 (Nat.le_of_ble_eq_true rfl) ?_
  simp only [penv, Nat.reduceAdd, Nat.zero_add]
  repeat refine zz ?_
  refine W_loop (S := Nat) (fun k => [(0, .slice A n c), (1, .int .i64 y), (7, .int .i64 n), (8, .int .i64 (k : Int))]) (fun k w' => w = w' ∧ k ≤ n ∧ ∀ i, i < k → (fun i : Nat => decide (gi xs (i : Int) = y)) i = false) (fun k => n - k) 0 ⟨rfl, rfl, rfl, rfl, trivial⟩ ⟨rfl, Nat.zero_le _, fun i hi => absurd hi (by omega)⟩ ?_
  rintro k _ ⟨rfl, hk, hall⟩
  repeat refine zz ?_
  refine W_cond rfl (fun hc => ?_) (fun hc => ?_)
  · have hkn : k < n := by simp at hc; omega
    obtain ⟨hA, hck⟩ := hx.getI (i := (k : Int)) (by omega) (by omega)
    repeat refine zz ?_
    refine W_cond rfl (fun hd => ?_) (fun hd => ?_)
    · simp at hd
      repeat refine zz ?_
      exact ret1 rfl rfl ⟨by rw [idxI, idxB_hit (k := k) (by omega) hall (by simp [hd])], rfl⟩
    · simp at hd
      repeat refine zz ?_
      exact ⟨k + 1, ⟨rfl, rfl, rfl, rfl, trivial⟩, ⟨rfl, by omega, all_no hall (by simp; omega)⟩, by omega⟩
  · simp at hc
    obtain rfl : k = n := by omega
    repeat refine zz ?_
    exact ret1 rfl rfl ⟨by rw [idxI, idxB_none (by rwa [← hnx])], rfl⟩

theorem slices_Contains_ok {w : World} {v : Value} {xs : List Int} {fp : List Nat} {y : Int} (hx : Sl intR w v xs fp) : Run Tryz.prog 113 [v, .int .i64 y] w (fun r w' => r = .bool (hasI xs y) ∧ w = w') := by
  refine Run_intro Tryz.func113 (by unfold CallOk; kernel_rfl) rfl Tryz.ntmps113 (Nat.le_of_ble_eq_true rfl) ?_
  simp only [penv, Nat.reduceAdd, Nat.zero_add]
  repeat refine zz ?_
  refine o_call rfl rfl rfl (slices_Index_ok hx) ?_
  rintro _ _ ⟨rfl, rfl⟩
  repeat refine zz ?_
  exact ret1 rfl rfl ⟨by simp [hasI], rfl⟩

theorem l2Has_ok {w : World} {v : Value} {xs : List Int} {fp : List Nat} {y : Int} (hx : Sl intR w v xs fp) : Run Tryz.prog 109 [v, .int .i64 y] w (fun r w' => r = .bool (hasI xs y) ∧ w = w') := by
  have hn := hx.le
  obtain ⟨A, n, c, rfl, hnx⟩ := hx.split
  refine Run_intro Tryz.func109 (by unfold CallOk; kernel_rfl) rfl Tryz.ntmps109 (Nat.le_of_ble_eq_true rfl) ?_
  simp only [penv, Nat.reduceAdd, Nat.zero_add]
  repeat refine zz ?_
  refine W_loop (S := Nat) (fun k => [(0, .slice A n c), (1, .int .i64 y), (5, .int .i64 (k : Int))]) (fun k w' => w = w' ∧ k ≤ n ∧ ∀ i, i < k → (fun i : Nat => decide (gi xs (i : Int) = y)) i = false) (fun k => n - k) 0 ⟨rfl, rfl, rfl, trivial⟩ ⟨rfl, Nat.zero_le _, fun i hi => absurd hi (by omega)⟩ ?_
  rintro k _ ⟨rfl, hk, hall⟩
  repeat refine zz ?_
  refine W_cond rfl (fun hc => ?_) (fun hc => ?_)
  · have hkn : k < n := by simp at hc; omega
    obtain ⟨hA, hck⟩ := hx.getI (i := (k : Int)) (by omega) (by omega)
    repeat refine zz ?_
    refine W_cond rfl (fun hd => ?_) (fun hd => ?_)
    · simp at hd
      repeat refine zz ?_
      exact ret1 rfl rfl ⟨by rw [hasI, idxI, idxB_hit (k := k) (by omega) hall (by simp [hd])]; simp, rfl⟩
    · simp at hd
      repeat refine zz ?_
      exact ⟨k + 1, ⟨rfl, rfl, rfl, trivial⟩, ⟨rfl, by omega, all_no hall (by simp; omega)⟩, by omega⟩
  · simp at hc
    obtain rfl : k = n := by omega
    repeat refine zz ?_
    exact ret1 rfl rfl ⟨by rw [hasI, idxI, idxB_none (by rwa [← hnx])]; simp, rfl⟩

theorem slices_IndexFunc_ok {w : World} {v : Value} {L : List Itm} {fp : List Nat} {f : FuncId} {ca : List Value} {p : Itm → Bool} (hx : Sl itemR w v L fp)
    (hf : ∀ w' x u fp, Keep w w' → Sl intR w' u x.vals fp → Run Tryz.prog f ([] ++ [.agg #[.int .i64 x.id, u]] ++ ca) w' (fun r w2 => r = .bool (p x) ∧ Keep w' w2)) :
    Run Tryz.prog 56 [v, .func (.func f) ([] : List Value).toArray ca.toArray] w (fun r w' => r = .int .i64 (idxB L.length fun i => p (gi L (i : Int))) ∧ Keep w w') := by
  have hn := hx.le
  obtain ⟨A, n, c, rfl, hnx⟩ := hx.split
  refine Run_intro Tryz.func56 (by unfold CallOk; kernel_rfl) rfl Tryz.ntmps56 (Nat.le_of_ble_eq_true rfl) ?_
  simp only [penv, Nat.reduceAdd, Nat.zero_add]
  repeat refine zz ?_
  refine W_loop (S := Nat) (fun k => [(0, .slice A n c), (1, .func (.func f) ([] : List Value).toArray ca.toArray), (7, .int .i64 n), (8, .int .i64 (k : Int))]) (fun k w' => Keep w w' ∧ k ≤ n ∧ ∀ i, i < k → (fun i : Nat => p (gi L (i : Int))) i = false) (fun k => n - k) 0 ⟨rfl, rfl, rfl, rfl, trivial⟩ ⟨Keep.refl _, Nat.zero_le _, fun i hi => absurd hi (by omega)⟩ ?_
  rintro k w1 ⟨hk1, hk, hall⟩
  replace hx := hx.keep hk1
  repeat refine zz ?_
  refine W_cond rfl (fun hc => ?_) (fun hc => ?_)
  · have hkn : k < n := by simp at hc; omega
    obtain ⟨hA, u, f1, hcell, hu, _⟩ := item_get hx (i := (k : Int)) (by omega) (by omega)
    repeat refine zz ?_
    refine o_callv rfl rfl rfl rfl (hf w1 _ _ _ hk1 hu) ?_
    rintro _ w2 ⟨rfl, hk2⟩
    repeat refine zz ?_
    refine W_cond rfl (fun hd => ?_) (fun hd => ?_)
    · repeat refine zz ?_
      exact ret1 rfl rfl ⟨by rw [idxB_hit (k := k) (by omega) hall hd], hk1.keep hk2⟩
    · repeat refine zz ?_
      exact ⟨k + 1, ⟨rfl, rfl, rfl, rfl, trivial⟩, ⟨hk1.keep hk2, by omega, all_no hall hd⟩, by omega⟩
  · simp at hc
    obtain rfl : k = n := by omega
    repeat refine zz ?_
    exact ret1 rfl rfl ⟨by rw [idxB_none (by rwa [← hnx])], hk1⟩

end Go.E

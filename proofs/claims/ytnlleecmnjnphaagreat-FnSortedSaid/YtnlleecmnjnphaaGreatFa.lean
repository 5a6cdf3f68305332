/-
  Contracts of small functions. Conditions: as stated.
-/
import Derived.Test.YtnlleecmnjnphaaGreatPure
import Derived.Test.YtnlleecmnjnphaaGreatTys
set_option linter.unusedVariables false
set_option linter.unusedSimpArgs false
namespace Go.E
open Go Go.RowKit Go.Proofs
attribute [local irreducible] W WL thenE inE retQ PureOp Keep Cell Cells Blk Sl Rows

theorem within_ok (x lo hi : Int) (w : World) : Run Tryz.prog 43 [.int .i64 x, .int .i64 lo, .int .i64 hi] w (fun v w' => v = .bool (inR x lo hi) ∧ w = w') := by
  refine Run_intro Tryz.func43 (by unfold CallOk; kernel_rfl) rfl Tryz.ntmps43 (Nat.le_of_ble_eq_true rfl) ?_
  simp only [penv, Nat.reduceAdd, Nat.zero_add]
  repeat refine zz ?_
  refine WL_part rfl rfl (fun h => ?_) (fun h => ?_)
  · repeat refine zz ?_
    refine ret1 rfl rfl ⟨?_, rfl⟩
    simp at h
    simp [inR, h]
  · repeat refine zz ?_
    refine ret1 rfl rfl ⟨?_, rfl⟩
    simp at h
    simp [inR]; omega

theorem impl_IsFieldList_ok {w : World} {v : Value} {xs : List Int} {fp : List Nat} (hx : Sl intR w v xs fp) : Run Tryz.prog 14 [v] w (fun r w' => r = .bool (isFieldList xs) ∧ w = w') := by
  have hn := hx.le
  obtain ⟨A, n, c, rfl, hnx⟩ := hx.split
  refine Run_intro Tryz.func14 (by unfold CallOk; kernel_rfl) rfl Tryz.ntmps14 (Nat.le_of_ble_eq_true rfl) ?_
  simp only [penv, Nat.reduceAdd, Nat.zero_add]
  repeat refine zz ?_
  refine W_loop (S := Nat) (fun k => [(0, .slice A n c), (5, .slice A n c), (6, .int .i64 n), (7, .int .i64 (k : Int))]) (fun k w' => w = w' ∧ k ≤ n ∧ ∀ i, i < k → ascAt 2 xs i = true) (fun k => n - k) 0 ⟨rfl, rfl, rfl, rfl, trivial⟩ ⟨rfl, Nat.zero_le _, fun i hi => absurd hi (by omega)⟩ ?_
  rintro k w' ⟨rfl, hk, hall⟩
  repeat refine zz ?_
  refine W_cond rfl (fun hc => ?_) (fun hc => ?_)
  · have hkn : k < n := by simp at hc; omega
    obtain ⟨hA, hck⟩ := hx.getI (i := (k : Int)) (by omega) (by omega)
    repeat refine zz ?_
    refine o_call rfl rfl rfl (within_ok _ _ _ _) ?_
    rintro _ _ ⟨rfl, rfl⟩
    repeat refine zz ?_
    refine WL_part rfl rfl (fun h => ?_) (fun h => ?_)
    · repeat refine zz ?_
      refine ret1 rfl rfl ⟨?_, rfl⟩
      simp at h
      rw [isFieldList, allB_false (k := k) (by omega) (by simp [ascAt, h]), Bool.false_and]
    · repeat refine zz ?_
      refine WL_part rfl rfl (fun h2 => ?_) (fun h2 => ?_)
      · simp at h2
        obtain ⟨hA', hck'⟩ := hx.getI (i := (k : Int) - 1) (by omega) (by omega)
        repeat refine zz ?_
        refine W_cond rfl (fun h3 => ?_) (fun h3 => ?_)
        · repeat refine zz ?_
          refine ret1 rfl rfl ⟨?_, rfl⟩
          simp at h h3
          rw [isFieldList, allB_false (k := k) (by omega) (by simp [ascAt, h, h3]; omega), Bool.false_and]
        · repeat refine zz ?_
          simp at h h3
          exact ⟨k + 1, ⟨rfl, rfl, rfl, rfl, trivial⟩, ⟨rfl, by omega, all_step hall (by simp [ascAt, h, h3])⟩, by omega⟩
      · simp at h h2
        repeat refine zz ?_
        exact ⟨k + 1, ⟨rfl, rfl, rfl, rfl, trivial⟩, ⟨rfl, by omega, all_step hall (by simp [ascAt, h]; omega)⟩, by omega⟩
  · simp at hc
    obtain rfl : k = n := by omega
    repeat refine zz ?_
    refine ret1 rfl rfl ⟨?_, rfl⟩
    rw [isFieldList, allB_true (by rwa [← hnx]), Bool.true_and]
    simp [hnx]

theorem l1In_ok (x lo hi : Int) (w : World) : Run Tryz.prog 44 [.int .i64 x, .int .i64 lo, .int .i64 hi] w (fun v w' => v = .bool (inR x lo hi) ∧ w = w') := by
  refine Run_intro Tryz.func44 (by unfold CallOk; kernel_rfl) rfl Tryz.ntmps44 (Nat.le_of_ble_eq_true rfl) ?_
  simp only [penv, Nat.reduceAdd, Nat.zero_add]
  repeat refine zz ?_
  refine WL_part rfl rfl (fun h => ?_) (fun h => ?_)
  · repeat refine zz ?_
    refine ret1 rfl rfl ⟨?_, rfl⟩
    simp at h
    simp [inR, h]
  · repeat refine zz ?_
    refine ret1 rfl rfl ⟨?_, rfl⟩
    simp at h
    simp [inR]; omega

theorem spec_IsFieldList_ok {w : World} {v : Value} {xs : List Int} {fp : List Nat} (hx : Sl intR w v xs fp) : Run Tryz.prog 15 [v] w (fun r w' => r = .bool (isFieldList xs) ∧ Keep w w') := by
  have hn := hx.le
  obtain ⟨A, n, c, rfl, hnx⟩ := hx.split
  refine Run_intro Tryz.func15 (by unfold CallOk; kernel_rfl) rfl Tryz.ntmps15 (Nat.le_of_ble_eq_true rfl) ?_
  simp only [penv, Nat.reduceAdd, Nat.zero_add]
  repeat refine zz ?_
  refine W_loop (S := Nat) (fun k => [(0, .slice A n c), (3, .int .i64 (k : Int))]) (fun k w' => Keep w w' ∧ k ≤ n ∧ ∀ i, i < k → ascAt 2 xs i = true) (fun k => n - k) 0 ⟨rfl, rfl, trivial⟩ ⟨Keep.refl _, Nat.zero_le _, fun i hi => absurd hi (by omega)⟩ ?_
  rintro k w1 ⟨hk1, hk, hall⟩
  replace hx := hx.keep hk1
  repeat refine zz ?_
  refine W_cond rfl (fun hc => ?_) (fun hc => ?_)
  · have hkn : k < n := by simp at hc; omega
    obtain ⟨hA, hck⟩ := hx.getI (i := (k : Int)) (by omega) (by omega)
    repeat refine zz ?_
    refine W_quiet (Keep w1) (by kernel_rfl) (by kernel_rfl) (Keep.drew _) ?_
    repeat refine qq ?_
    refine WQ_call rfl rfl rfl (fun w' hw' => (l1In_ok _ _ _ _).kp hw') ?_
    repeat refine qq ?_
    refine WQ_part rfl rfl (fun h => ?_) (fun h => ?_)
    · repeat refine qq ?_
      intro w2 hk2 
      repeat refine zz ?_
      refine ret1 rfl rfl ⟨?_, hk1.keep hk2⟩
      simp at h
      rw [isFieldList, allB_false (k := k) (by omega) (by simp [ascAt, h]), Bool.false_and]
    · simp at h
      repeat refine qq ?_
      refine WQ_part rfl rfl (fun h2 => ?_) (fun h2 => ?_)
      · simp at h2
        obtain ⟨hA', hck'⟩ := hx.getI (i := (k : Int) - 1) (by omega) (by omega)
        repeat refine qq ?_
        intro w2 hk2 
        repeat refine zz ?_
        refine W_cond rfl (fun h3 => ?_) (fun h3 => ?_)
        · repeat refine zz ?_
          refine ret1 rfl rfl ⟨?_, hk1.keep hk2⟩
          simp at h3
          rw [isFieldList, allB_false (k := k) (by omega) (by simp [ascAt, h, h3]; omega), Bool.false_and]
        · simp at h3
          repeat refine zz ?_
          exact ⟨k + 1, ⟨rfl, rfl, trivial⟩, ⟨hk1.keep hk2, by omega, all_step hall (by simp [ascAt, h, h3])⟩, by omega⟩
      · simp at h2
        repeat refine qq ?_
        intro w2 hk2 
        repeat refine zz ?_
        exact ⟨k + 1, ⟨rfl, rfl, trivial⟩, ⟨hk1.keep hk2, by omega, all_step hall (by simp [ascAt, h]; omega)⟩, by omega⟩
  · simp at hc
    obtain rfl : k = n := by omega
    repeat refine zz ?_
    refine ret1 rfl rfl ⟨?_, hk1⟩
    rw [isFieldList, allB_true (by rwa [← hnx]), Bool.true_and]
    simp [hnx]
end Go.E

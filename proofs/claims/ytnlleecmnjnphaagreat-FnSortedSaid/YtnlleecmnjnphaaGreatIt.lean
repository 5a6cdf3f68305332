/-
  Contracts on items: validity, the laws' copies, sizes and comparisons of one item. Conditions: as stated.
-/
import Derived.Test.YtnlleecmnjnphaaGreatLa
import Derived.Test.YtnlleecmnjnphaaGreatMrk
import Derived.Test.YtnlleecmnjnphaaGreatFa
set_option linter.unusedVariables false
set_option linter.unusedSimpArgs false
namespace Go.E
open Go Go.RowKit Go.Proofs
attribute [local irreducible] W WL WD WE thenE inE retQ PureOp Keep Cell Cells Blk Sl Rows Own Src Fresh

theorem impl_areValues_ok {w : World} {v : Value} {xs : List Int} {fp : List Nat} (hx : Sl intR w v xs fp) : Run Tryz.prog 69 [v] w (fun r w' => r = .bool (areVals xs) ∧ w = w') := by
  have hn := hx.le
  obtain ⟨A, n, c, rfl, hnx⟩ := hx.split
  refine Run_intro Tryz.func69 (by unfold CallOk; kernel_rfl) rfl Tryz.ntmps69 (Nat.le_of_ble_eq_true rfl) ?_
  simp only [penv, Nat.reduceAdd, Nat.zero_add]
  repeat refine zz ?_
  refine W_loop (S := Nat) (fun k => [(0, .slice A n c), (5, .slice A n c), (6, .int .i64 n), (7, .int .i64 (k : Int))]) (fun k w' => w = w' ∧ k ≤ n ∧ ∀ i, i < k → inR (gi xs (i : Int)) 0 9 = true) (fun k => n - k) 0 ⟨rfl, rfl, rfl, rfl, trivial⟩ ⟨rfl, Nat.zero_le _, fun i hi => absurd hi (by omega)⟩ ?_
  rintro k _ ⟨rfl, hk, hall⟩
  repeat refine zz ?_
  refine W_cond rfl (fun hc => ?_) (fun hc => ?_)
  · have hkn : k < n := by simp at hc; omega
    obtain ⟨hA, hck⟩ := hx.getI (i := (k : Int)) (by omega) (by omega)
    repeat refine zz ?_
    refine o_call rfl rfl rfl (within_ok _ _ _ _) ?_
    rintro _ _ ⟨rfl, rfl⟩
    repeat refine zz ?_
    refine W_cond rfl (fun hd => ?_) (fun hd => ?_)
    · simp at hd
      repeat refine zz ?_
      exact ret1 rfl rfl ⟨by rw [areVals, allB_false (k := k) (by omega) hd], rfl⟩
    · simp at hd
      repeat refine zz ?_
      exact ⟨k + 1, ⟨rfl, rfl, rfl, rfl, trivial⟩, ⟨rfl, by omega, all_step hall hd⟩, by omega⟩
  · simp at hc
    obtain rfl : k = n := by omega
    repeat refine zz ?_
    exact ret1 rfl rfl ⟨by rw [areVals, allB_true (by rwa [← hnx])], rfl⟩

theorem impl_IsItem_ok {w : World} {u : Value} {x : Itm} {fp : List Nat} (hx : Sl intR w u x.vals fp) : Run Tryz.prog 51 [.agg #[.int .i64 x.id, u]] w (fun r w' => r = .bool (isItem x) ∧ Keep w w') := by
  refine Run_intro Tryz.func51 (by unfold CallOk; kernel_rfl) rfl Tryz.ntmps51 (Nat.le_of_ble_eq_true rfl) ?_
  simp only [penv, Nat.reduceAdd, Nat.zero_add]
  repeat refine zz ?_
  refine o_boxS rfl rfl rfl ?_
  intro b w1 hal
  have hb := hal.blk
  have hk := hal.kp
  replace hx := hx.keep hk
  obtain ⟨A, n, c, rfl, hnx⟩ := hx.split
  repeat refine zz ?_
  refine o_call rfl rfl rfl (within_ok _ _ _ _) ?_
  rintro _ _ ⟨rfl, rfl⟩
  repeat refine zz ?_
  refine WL_part rfl rfl (fun h => ?_) (fun h => ?_)
  · repeat refine zz ?_
    refine WL_part rfl rfl (fun h2 => ?_) (fun h2 => ?_)
    · repeat refine zz ?_
      refine o_call rfl rfl rfl (impl_areValues_ok hx) ?_
      rintro _ _ ⟨rfl, rfl⟩
      repeat refine zz ?_
      refine ret1 rfl rfl ⟨?_, hk⟩
      simp at h2
      have : x.vals.length = 3 := by omega
      simp [isItem, h, this]
    · repeat refine zz ?_
      refine ret1 rfl rfl ⟨?_, hk⟩
      simp at h2
      have : x.vals.length ≠ 3 := by omega
      simp [isItem, h, this]
  · repeat refine zz ?_
    refine ret1 rfl rfl ⟨?_, hk⟩
    simp [isItem, h]

theorem spec_IsItem_ok {w : World} {u : Value} {x : Itm} {fp : List Nat} (hx : Sl intR w u x.vals fp) : Run Tryz.prog 45 [.agg #[.int .i64 x.id, u]] w (fun r w' => r = .bool (isItem x) ∧ Keep w w') := by
  have hn := hx.le
  refine Run_intro Tryz.func45 (by unfold CallOk; kernel_rfl) rfl Tryz.ntmps45 (Nat.le_of_ble_eq_true rfl) ?_
  simp only [penv, Nat.reduceAdd, Nat.zero_add]
  repeat refine zz ?_
  refine o_boxS rfl rfl rfl ?_
  intro b w1 hal
  have hb := hal.blk
  have hk := hal.kp
  replace hx := hx.keep hk
  obtain ⟨A, n, c, rfl, hnx⟩ := hx.split
  repeat refine zz ?_
  refine W_loop (S := Nat) (fun k => [(1, .pointer (some ⟨b, 0, none⟩)), (3, .int .i64 (k : Int))]) (fun k w' => w1 = w' ∧ k ≤ n ∧ ∀ i, i < k → inR (gi x.vals (i : Int)) 0 9 = true) (fun k => n - k) 0 ⟨rfl, rfl, trivial⟩ ⟨rfl, Nat.zero_le _, fun i hi => absurd hi (by omega)⟩ ?_
  rintro k _ ⟨rfl, hk1, hall⟩
  repeat refine zz ?_
  refine W_cond rfl (fun hc => ?_) (fun hc => ?_)
  · have hkn : k < n := by simp at hc; omega
    obtain ⟨hA, hck⟩ := hx.getI (i := (k : Int)) (by omega) (by omega)
    repeat refine zz ?_
    refine o_call rfl rfl rfl (l1In_ok _ _ _ _) ?_
    rintro _ _ ⟨rfl, rfl⟩
    repeat refine zz ?_
    refine W_cond rfl (fun hd => ?_) (fun hd => ?_)
    · simp at hd
      repeat refine zz ?_
      exact ret1 rfl rfl ⟨by rw [isItem, areVals, allB_false (k := k) (by omega) hd, Bool.and_false], hk⟩
    · simp at hd
      repeat refine zz ?_
      exact ⟨k + 1, ⟨rfl, rfl, trivial⟩, ⟨rfl, by omega, all_step hall hd⟩, by omega⟩
  · simp at hc
    obtain rfl : k = n := by omega
    have hav : areVals x.vals = true := by rw [areVals, allB_true (by rwa [← hnx])]
    repeat refine zz ?_
    refine o_call rfl rfl rfl (l1In_ok _ _ _ _) ?_
    rintro _ _ ⟨rfl, rfl⟩
    repeat refine zz ?_
    refine WL_part rfl rfl (fun h => ?_) (fun h => ?_)
    · repeat refine zz ?_
      refine ret1 rfl rfl ⟨?_, hk⟩
      rw [isItem, hav, h, Bool.and_true, Bool.true_and, ← hnx]
      congr 1
      rw [decide_eq_decide]; omega
    · repeat refine zz ?_
      refine ret1 rfl rfl ⟨?_, hk⟩
      simp [isItem, h]

end Go.E

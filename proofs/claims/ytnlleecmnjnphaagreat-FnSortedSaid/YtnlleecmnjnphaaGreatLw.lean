/-
  Contracts: the small helpers of the great laws. Conditions: as stated.
-/
import Derived.Test.YtnlleecmnjnphaaGreatRa
import Derived.Test.YtnlleecmnjnphaaGreatGd
set_option linter.unusedVariables false
set_option linter.unusedSimpArgs false
namespace Go.E
open Go Go.RowKit Go.Proofs
attribute [local irreducible] W WL WD WE thenE inE retQ PureOp Keep Cell Cells Blk Sl Rows Own Src Fresh

theorem big_ok {w : World} {v : Value} {xs : List Int} {fp : List Nat} (hx : Sl u8R w v xs fp) : Run Tryz.prog 4 [v] w (fun r w' => r = .bool (decide ((1048576 : Int) < xs.length)) ∧ w = w') := by
  obtain ⟨A, n, c, rfl, hnx⟩ := hx.split
  refine Run_intro Tryz.func4 (by unfold CallOk; kernel_rfl) rfl Tryz.ntmps4 (Nat.le_of_ble_eq_true rfl) ?_
  simp only [penv, Nat.reduceAdd, Nat.zero_add]
  repeat refine zz ?_
  exact ret1 rfl rfl ⟨by rw [hnx], rfl⟩

theorem sameInts_ok {w : World} {v u : Value} {xs ys : List Int} {fp gp : List Nat} (hx : Sl intR w v xs fp) (hy : Sl intR w u ys gp) : Run Tryz.prog 12 [v, u] w (fun r w' => r = .bool (decide (xs = ys)) ∧ Keep w w') := by
  have hn := hx.le
  obtain ⟨A, n, c, rfl, hnx⟩ := hx.split
  obtain ⟨B, m, d, rfl, hmx⟩ := hy.split
  refine Run_intro Tryz.func12 (by unfold CallOk; kernel_rfl) rfl Tryz.ntmps12 (Nat.le_of_ble_eq_true rfl) ?_
  simp only [penv, Nat.reduceAdd, Nat.zero_add]
  repeat refine zz ?_
  refine W_cond rfl (fun hl => ?_) (fun hl => ?_)
  · simp at hl
    repeat refine zz ?_
    exact ret1 rfl rfl ⟨by rw [decide_eq_false]; intro he; rw [he] at hnx; omega, Keep.refl _⟩
  simp at hl
  have hnm : n = m := by omega
  subst hnm
  repeat refine zz ?_
  refine W_loop (S := Nat) (fun k => [(0, .slice A n c), (1, .slice B n d), (5, .int .i64 (k : Int))]) (fun k w' => Keep w w' ∧ k ≤ n ∧ ∀ i, i < k → gi xs (i : Int) = gi ys (i : Int)) (fun k => n - k) 0 ⟨rfl, rfl, rfl, trivial⟩ ⟨Keep.refl _, Nat.zero_le _, fun i hi => absurd hi (by omega)⟩ ?_
  rintro k wa ⟨hka, hk, hall⟩
  have hxa := hx.keep hka
  have hya := hy.keep hka
  repeat refine zz ?_
  refine W_cond rfl (fun hc => ?_) (fun hc => ?_)
  · have hkn : k < n := by simp at hc; omega
    obtain ⟨hA, hcx⟩ := hxa.getI (i := (k : Int)) (by omega) (by omega)
    obtain ⟨hB, hcy⟩ := hya.getI (i := (k : Int)) (by omega) (by omega)
    repeat refine zz ?_
    refine W_quiet (Keep wa) (by kernel_rfl) (by kernel_rfl) (Keep.drew _) ?_
    repeat refine qq ?_
    intro wb hkb 
    repeat refine zz ?_
    refine W_cond rfl (fun hd => ?_) (fun hd => ?_)
    · simp at hd
      repeat refine zz ?_
      exact ret1 rfl rfl ⟨by rw [decide_eq_false]; intro he; rw [he] at hd; exact hd rfl, hka.keep hkb⟩
    · simp at hd
      repeat refine zz ?_
      exact ⟨k + 1, ⟨rfl, rfl, rfl, trivial⟩, ⟨hka.keep hkb, by omega, fun i hi => by
        rcases Nat.lt_or_ge i k with h1 | h1
        · exact hall i h1
        · obtain rfl : i = k := by omega
          exact hd⟩, by omega⟩
  · simp at hc
    obtain rfl : k = n := by omega
    repeat refine zz ?_
    exact ret1 rfl rfl ⟨by rw [decide_eq_true]; exact gi_ext (by omega) (by rwa [← hnx]), hka⟩
theorem sameInts_same {w : World} {v u : Value} {xs : List Int} {fp gp : List Nat} (hx : Sl intR w v xs fp) (hy : Sl intR w u xs gp) : Run Tryz.prog 12 [v, u] w (fun r w' => r = .bool true ∧ Keep w w') :=
  (sameInts_ok hx hy).mono fun r w' h => by simpa using h
end Go.E

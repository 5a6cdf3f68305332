/-
  Contracts: the small helpers of the great laws. Conditions: as stated.
-/
import Derived.Test.YtpdhdnmcafjadaaRa
import Derived.Test.YtpdhdnmcafjadaaDa
set_option linter.unusedVariables false
set_option linter.unusedSimpArgs false
namespace Go.E
open Go Go.RowKit Go.Proofs
attribute [local irreducible] W WL WD WE thenE inE retQ PureOp Keep Cell Cells Blk Sl Rows Own Src Fresh

theorem big_ok {w : World} {v : Value} {xs : List Int} {fp : List Nat} (hx : Sl u8R w v xs fp) : Run Try.prog 15 [v] w (fun r w' => r = .bool (decide ((1048576 : Int) < xs.length)) ∧ w = w') := by
  obtain ⟨A, n, c, rfl, hnx⟩ := hx.split
  refine Run_intro Try.func15 (by unfold CallOk; kernel_rfl) rfl Try.ntmps15 (Nat.le_of_ble_eq_true rfl) ?_
  simp only [penv, Nat.reduceAdd, Nat.zero_add]
  repeat (first|refine z_1 ?_|refine z_2 ?_|refine s_o ?_|refine z_3 ?_|refine z_4 ?_|refine z_5 ?_|refine z_6 ?_|refine z_7 ?_|refine z_8 ?_|refine z_9 ?_|refine z_a ?_|refine z_b ?_|refine z_d ?_|refine z_e ?_|refine z_f ?_|refine z_g ?_|refine z_h ?_|refine z_i ?_|refine z_j ?_|refine s_a ?_|refine s_s ?_|refine s_n ?_|refine s_i ?_|refine s_f ?_|refine s_b ?_|refine s_d ?_|refine s_l1 ?_|refine s_l2 ?_|refine s_l3 ?_|refine s_l4 ?_|refine s_l5 ?_|refine s_l6 ?_|refine s_l7 ?_|refine s_l8 ?_|refine s_l9 ?_|refine s_g ?_|refine s_q ?_|refine s_e ?_|refine s_j ?_)
  exact ret1 rfl rfl ⟨by rw [hnx], rfl⟩

theorem has_ok {w : World} {v : Value} {xs : List Int} {fp : List Nat} {y : Int} (hx : Sl intR w v xs fp) : Run Try.prog 25 [v, .int .i64 y] w (fun r w' => r = .bool (hasI xs y) ∧ w = w') := by
  have hn := hx.le
  obtain ⟨A, n, c, rfl, hnx⟩ := hx.split
  refine Run_intro Try.func25 (by unfold CallOk; kernel_rfl) rfl Try.ntmps25 (Nat.le_of_ble_eq_true rfl) ?_
  simp only [penv, Nat.reduceAdd, Nat.zero_add]
  repeat (first|refine z_1 ?_|refine z_2 ?_|refine s_o ?_|refine z_3 ?_|refine z_4 ?_|refine z_5 ?_|refine z_6 ?_|refine z_7 ?_|refine z_8 ?_|refine z_9 ?_|refine z_a ?_|refine z_b ?_|refine z_d ?_|refine z_e ?_|refine z_f ?_|refine z_g ?_|refine z_h ?_|refine z_i ?_|refine z_j ?_|refine s_a ?_|refine s_s ?_|refine s_n ?_|refine s_i ?_|refine s_f ?_|refine s_b ?_|refine s_d ?_|refine s_l1 ?_|refine s_l2 ?_|refine s_l3 ?_|refine s_l4 ?_|refine s_l5 ?_|refine s_l6 ?_|refine s_l7 ?_|refine s_l8 ?_|refine s_l9 ?_|refine s_g ?_|refine s_q ?_|refine s_e ?_|refine s_j ?_)
  refine W_loop (S := Nat) (fun k => [(0, .slice A n c), (1, .int .i64 y), (5, .int .i64 (k : Int))]) (fun k w' => w = w' ∧ k ≤ n ∧ ∀ i, i < k → (fun i : Nat => decide (gi xs (i : Int) = y)) i = false) (fun k => n - k) 0 ⟨rfl, rfl, rfl, trivial⟩ ⟨rfl, Nat.zero_le _, fun i hi => absurd hi (by omega)⟩ ?_
  rintro k _ ⟨rfl, hk, hall⟩
  repeat (first|refine z_1 ?_|refine z_2 ?_|refine s_o ?_|refine z_3 ?_|refine z_4 ?_|refine z_5 ?_|refine z_6 ?_|refine z_7 ?_|refine z_8 ?_|refine z_9 ?_|refine z_a ?_|refine z_b ?_|refine z_d ?_|refine z_e ?_|refine z_f ?_|refine z_g ?_|refine z_h ?_|refine z_i ?_|refine z_j ?_|refine s_a ?_|refine s_s ?_|refine s_n ?_|refine s_i ?_|refine s_f ?_|refine s_b ?_|refine s_d ?_|refine s_l1 ?_|refine s_l2 ?_|refine s_l3 ?_|refine s_l4 ?_|refine s_l5 ?_|refine s_l6 ?_|refine s_l7 ?_|refine s_l8 ?_|refine s_l9 ?_|refine s_g ?_|refine s_q ?_|refine s_e ?_|refine s_j ?_)
  refine W_cond rfl (fun hc => ?_) (fun hc => ?_)
  · have hkn : k < n := by simp at hc; omega
    obtain ⟨hA, hcell⟩ := hx.getI (i := (k : Int)) (by omega) (by omega)
    repeat (first|refine z_1 ?_|refine z_2 ?_|refine s_o ?_|refine z_3 ?_|refine z_4 ?_|refine z_5 ?_|refine z_6 ?_|refine z_7 ?_|refine z_8 ?_|refine z_9 ?_|refine z_a ?_|refine z_b ?_|refine z_d ?_|refine z_e ?_|refine z_f ?_|refine z_g ?_|refine z_h ?_|refine z_i ?_|refine z_j ?_|refine s_a ?_|refine s_s ?_|refine s_n ?_|refine s_i ?_|refine s_f ?_|refine s_b ?_|refine s_d ?_|refine s_l1 ?_|refine s_l2 ?_|refine s_l3 ?_|refine s_l4 ?_|refine s_l5 ?_|refine s_l6 ?_|refine s_l7 ?_|refine s_l8 ?_|refine s_l9 ?_|refine s_g ?_|refine s_q ?_|refine s_e ?_|refine s_j ?_)
    refine W_cond rfl (fun hd => ?_) (fun hd => ?_)
    · simp at hd
      repeat (first|refine z_1 ?_|refine z_2 ?_|refine s_o ?_|refine z_3 ?_|refine z_4 ?_|refine z_5 ?_|refine z_6 ?_|refine z_7 ?_|refine z_8 ?_|refine z_9 ?_|refine z_a ?_|refine z_b ?_|refine z_d ?_|refine z_e ?_|refine z_f ?_|refine z_g ?_|refine z_h ?_|refine z_i ?_|refine z_j ?_|refine s_a ?_|refine s_s ?_|refine s_n ?_|refine s_i ?_|refine s_f ?_|refine s_b ?_|refine s_d ?_|refine s_l1 ?_|refine s_l2 ?_|refine s_l3 ?_|refine s_l4 ?_|refine s_l5 ?_|refine s_l6 ?_|refine s_l7 ?_|refine s_l8 ?_|refine s_l9 ?_|refine s_g ?_|refine s_q ?_|refine s_e ?_|refine s_j ?_)
      exact ret1 rfl rfl ⟨by rw [hasI, idxI, idxB_hit (k := k) (by omega) hall (by simp [hd])]; simp, rfl⟩
    · simp at hd
      repeat (first|refine z_1 ?_|refine z_2 ?_|refine s_o ?_|refine z_3 ?_|refine z_4 ?_|refine z_5 ?_|refine z_6 ?_|refine z_7 ?_|refine z_8 ?_|refine z_9 ?_|refine z_a ?_|refine z_b ?_|refine z_d ?_|refine z_e ?_|refine z_f ?_|refine z_g ?_|refine z_h ?_|refine z_i ?_|refine z_j ?_|refine s_a ?_|refine s_s ?_|refine s_n ?_|refine s_i ?_|refine s_f ?_|refine s_b ?_|refine s_d ?_|refine s_l1 ?_|refine s_l2 ?_|refine s_l3 ?_|refine s_l4 ?_|refine s_l5 ?_|refine s_l6 ?_|refine s_l7 ?_|refine s_l8 ?_|refine s_l9 ?_|refine s_g ?_|refine s_q ?_|refine s_e ?_|refine s_j ?_)
      exact ⟨k + 1, ⟨rfl, rfl, rfl, trivial⟩, ⟨rfl, by omega, all_no hall (by simp; omega)⟩, by omega⟩
  · simp at hc
    obtain rfl : k = n := by omega
    repeat (first|refine z_1 ?_|refine z_2 ?_|refine s_o ?_|refine z_3 ?_|refine z_4 ?_|refine z_5 ?_|refine z_6 ?_|refine z_7 ?_|refine z_8 ?_|refine z_9 ?_|refine z_a ?_|refine z_b ?_|refine z_d ?_|refine z_e ?_|refine z_f ?_|refine z_g ?_|refine z_h ?_|refine z_i ?_|refine z_j ?_|refine s_a ?_|refine s_s ?_|refine s_n ?_|refine s_i ?_|refine s_f ?_|refine s_b ?_|refine s_d ?_|refine s_l1 ?_|refine s_l2 ?_|refine s_l3 ?_|refine s_l4 ?_|refine s_l5 ?_|refine s_l6 ?_|refine s_l7 ?_|refine s_l8 ?_|refine s_l9 ?_|refine s_g ?_|refine s_q ?_|refine s_e ?_|refine s_j ?_)
    exact ret1 rfl rfl ⟨by rw [hasI, idxI, idxB_none (by rwa [← hnx])]; simp, rfl⟩

theorem sameInts_ok {w : World} {v u : Value} {xs ys : List Int} {fp gp : List Nat} (hx : Sl intR w v xs fp) (hy : Sl intR w u ys gp) : Run Try.prog 19 [v, u] w (fun r w' => r = .bool (decide (xs = ys)) ∧ Keep w w') := by
  have hn := hx.le
  obtain ⟨A, n, c, rfl, hnx⟩ := hx.split
  obtain ⟨B, m, d, rfl, hmx⟩ := hy.split
  refine Run_intro Try.func19 (by unfold CallOk; kernel_rfl) rfl Try.ntmps19 (Nat.le_of_ble_eq_true rfl) ?_
  simp only [penv, Nat.reduceAdd, Nat.zero_add]
  repeat (first|refine z_1 ?_|refine z_2 ?_|refine s_o ?_|refine z_3 ?_|refine z_4 ?_|refine z_5 ?_|refine z_6 ?_|refine z_7 ?_|refine z_8 ?_|refine z_9 ?_|refine z_a ?_|refine z_b ?_|refine z_d ?_|refine z_e ?_|refine z_f ?_|refine z_g ?_|refine z_h ?_|refine z_i ?_|refine z_j ?_|refine s_a ?_|refine s_s ?_|refine s_n ?_|refine s_i ?_|refine s_f ?_|refine s_b ?_|refine s_d ?_|refine s_l1 ?_|refine s_l2 ?_|refine s_l3 ?_|refine s_l4 ?_|refine s_l5 ?_|refine s_l6 ?_|refine s_l7 ?_|refine s_l8 ?_|refine s_l9 ?_|refine s_g ?_|refine s_q ?_|refine s_e ?_|refine s_j ?_)
  refine W_cond rfl (fun hl => ?_) (fun hl => ?_)
  · simp at hl
    repeat (first|refine z_1 ?_|refine z_2 ?_|refine s_o ?_|refine z_3 ?_|refine z_4 ?_|refine z_5 ?_|refine z_6 ?_|refine z_7 ?_|refine z_8 ?_|refine z_9 ?_|refine z_a ?_|refine z_b ?_|refine z_d ?_|refine z_e ?_|refine z_f ?_|refine z_g ?_|refine z_h ?_|refine z_i ?_|refine z_j ?_|refine s_a ?_|refine s_s ?_|refine s_n ?_|refine s_i ?_|refine s_f ?_|refine s_b ?_|refine s_d ?_|refine s_l1 ?_|refine s_l2 ?_|refine s_l3 ?_|refine s_l4 ?_|refine s_l5 ?_|refine s_l6 ?_|refine s_l7 ?_|refine s_l8 ?_|refine s_l9 ?_|refine s_g ?_|refine s_q ?_|refine s_e ?_|refine s_j ?_)
    exact ret1 rfl rfl ⟨by rw [decide_eq_false]; intro he; rw [he] at hnx; omega, Keep.refl _⟩
  simp at hl
  have hnm : n = m := by omega
  subst hnm
  repeat (first|refine z_1 ?_|refine z_2 ?_|refine s_o ?_|refine z_3 ?_|refine z_4 ?_|refine z_5 ?_|refine z_6 ?_|refine z_7 ?_|refine z_8 ?_|refine z_9 ?_|refine z_a ?_|refine z_b ?_|refine z_d ?_|refine z_e ?_|refine z_f ?_|refine z_g ?_|refine z_h ?_|refine z_i ?_|refine z_j ?_|refine s_a ?_|refine s_s ?_|refine s_n ?_|refine s_i ?_|refine s_f ?_|refine s_b ?_|refine s_d ?_|refine s_l1 ?_|refine s_l2 ?_|refine s_l3 ?_|refine s_l4 ?_|refine s_l5 ?_|refine s_l6 ?_|refine s_l7 ?_|refine s_l8 ?_|refine s_l9 ?_|refine s_g ?_|refine s_q ?_|refine s_e ?_|refine s_j ?_)
  refine W_loop (S := Nat) (fun k => [(0, .slice A n c), (1, .slice B n d), (5, .int .i64 (k : Int))]) (fun k w' => Keep w w' ∧ k ≤ n ∧ ∀ i, i < k → gi xs (i : Int) = gi ys (i : Int)) (fun k => n - k) 0 ⟨rfl, rfl, rfl, trivial⟩ ⟨Keep.refl _, Nat.zero_le _, fun i hi => absurd hi (by omega)⟩ ?_
  rintro k wa ⟨hka, hk, hall⟩
  have hxa := hx.keep hka
  have hya := hy.keep hka
  repeat (first|refine z_1 ?_|refine z_2 ?_|refine s_o ?_|refine z_3 ?_|refine z_4 ?_|refine z_5 ?_|refine z_6 ?_|refine z_7 ?_|refine z_8 ?_|refine z_9 ?_|refine z_a ?_|refine z_b ?_|refine z_d ?_|refine z_e ?_|refine z_f ?_|refine z_g ?_|refine z_h ?_|refine z_i ?_|refine z_j ?_|refine s_a ?_|refine s_s ?_|refine s_n ?_|refine s_i ?_|refine s_f ?_|refine s_b ?_|refine s_d ?_|refine s_l1 ?_|refine s_l2 ?_|refine s_l3 ?_|refine s_l4 ?_|refine s_l5 ?_|refine s_l6 ?_|refine s_l7 ?_|refine s_l8 ?_|refine s_l9 ?_|refine s_g ?_|refine s_q ?_|refine s_e ?_|refine s_j ?_)
  refine W_cond rfl (fun hc => ?_) (fun hc => ?_)
  · have hkn : k < n := by simp at hc; omega
    obtain ⟨hA, hcx⟩ := hxa.getI (i := (k : Int)) (by omega) (by omega)
    obtain ⟨hB, hcy⟩ := hya.getI (i := (k : Int)) (by omega) (by omega)
    repeat (first|refine z_1 ?_|refine z_2 ?_|refine s_o ?_|refine z_3 ?_|refine z_4 ?_|refine z_5 ?_|refine z_6 ?_|refine z_7 ?_|refine z_8 ?_|refine z_9 ?_|refine z_a ?_|refine z_b ?_|refine z_d ?_|refine z_e ?_|refine z_f ?_|refine z_g ?_|refine z_h ?_|refine z_i ?_|refine z_j ?_|refine s_a ?_|refine s_s ?_|refine s_n ?_|refine s_i ?_|refine s_f ?_|refine s_b ?_|refine s_d ?_|refine s_l1 ?_|refine s_l2 ?_|refine s_l3 ?_|refine s_l4 ?_|refine s_l5 ?_|refine s_l6 ?_|refine s_l7 ?_|refine s_l8 ?_|refine s_l9 ?_|refine s_g ?_|refine s_q ?_|refine s_e ?_|refine s_j ?_)
    refine W_quiet (Keep wa) (by kernel_rfl) (by kernel_rfl) (Keep.drew _) ?_
    repeat (first|refine q_o ?_|refine z_k ?_|refine q_a ?_|refine q_s ?_|refine q_n ?_|refine q_i ?_|refine q_f ?_|refine q_b ?_|refine q_d ?_|refine q_l1 ?_|refine q_l2 ?_|refine q_l3 ?_|refine q_l4 ?_|refine q_l5 ?_|refine q_l6 ?_|refine q_l7 ?_|refine q_l8 ?_|refine q_l9 ?_|refine q_g ?_|refine q_q ?_|refine q_e ?_|refine q_j ?_|refine z_l ?_)
    intro wb hkb 
    repeat (first|refine z_1 ?_|refine z_2 ?_|refine s_o ?_|refine z_3 ?_|refine z_4 ?_|refine z_5 ?_|refine z_6 ?_|refine z_7 ?_|refine z_8 ?_|refine z_9 ?_|refine z_a ?_|refine z_b ?_|refine z_d ?_|refine z_e ?_|refine z_f ?_|refine z_g ?_|refine z_h ?_|refine z_i ?_|refine z_j ?_|refine s_a ?_|refine s_s ?_|refine s_n ?_|refine s_i ?_|refine s_f ?_|refine s_b ?_|refine s_d ?_|refine s_l1 ?_|refine s_l2 ?_|refine s_l3 ?_|refine s_l4 ?_|refine s_l5 ?_|refine s_l6 ?_|refine s_l7 ?_|refine s_l8 ?_|refine s_l9 ?_|refine s_g ?_|refine s_q ?_|refine s_e ?_|refine s_j ?_)
    refine W_cond rfl (fun hd => ?_) (fun hd => ?_)
    · simp at hd
      repeat (first|refine z_1 ?_|refine z_2 ?_|refine s_o ?_|refine z_3 ?_|refine z_4 ?_|refine z_5 ?_|refine z_6 ?_|refine z_7 ?_|refine z_8 ?_|refine z_9 ?_|refine z_a ?_|refine z_b ?_|refine z_d ?_|refine z_e ?_|refine z_f ?_|refine z_g ?_|refine z_h ?_|refine z_i ?_|refine z_j ?_|refine s_a ?_|refine s_s ?_|refine s_n ?_|refine s_i ?_|refine s_f ?_|refine s_b ?_|refine s_d ?_|refine s_l1 ?_|refine s_l2 ?_|refine s_l3 ?_|refine s_l4 ?_|refine s_l5 ?_|refine s_l6 ?_|refine s_l7 ?_|refine s_l8 ?_|refine s_l9 ?_|refine s_g ?_|refine s_q ?_|refine s_e ?_|refine s_j ?_)
      exact ret1 rfl rfl ⟨by rw [decide_eq_false]; intro he; rw [he] at hd; exact hd rfl, hka.keep hkb⟩
    · simp at hd
      repeat (first|refine z_1 ?_|refine z_2 ?_|refine s_o ?_|refine z_3 ?_|refine z_4 ?_|refine z_5 ?_|refine z_6 ?_|refine z_7 ?_|refine z_8 ?_|refine z_9 ?_|refine z_a ?_|refine z_b ?_|refine z_d ?_|refine z_e ?_|refine z_f ?_|refine z_g ?_|refine z_h ?_|refine z_i ?_|refine z_j ?_|refine s_a ?_|refine s_s ?_|refine s_n ?_|refine s_i ?_|refine s_f ?_|refine s_b ?_|refine s_d ?_|refine s_l1 ?_|refine s_l2 ?_|refine s_l3 ?_|refine s_l4 ?_|refine s_l5 ?_|refine s_l6 ?_|refine s_l7 ?_|refine s_l8 ?_|refine s_l9 ?_|refine s_g ?_|refine s_q ?_|refine s_e ?_|refine s_j ?_)
      exact ⟨k + 1, ⟨rfl, rfl, rfl, trivial⟩, ⟨hka.keep hkb, by omega, fun i hi => by
        rcases Nat.lt_or_ge i k with h1 | h1
        · exact hall i h1
        · obtain rfl : i = k := by omega
          exact hd⟩, by omega⟩
  · simp at hc
    obtain rfl : k = n := by omega
    repeat (first|refine z_1 ?_|refine z_2 ?_|refine s_o ?_|refine z_3 ?_|refine z_4 ?_|refine z_5 ?_|refine z_6 ?_|refine z_7 ?_|refine z_8 ?_|refine z_9 ?_|refine z_a ?_|refine z_b ?_|refine z_d ?_|refine z_e ?_|refine z_f ?_|refine z_g ?_|refine z_h ?_|refine z_i ?_|refine z_j ?_|refine s_a ?_|refine s_s ?_|refine s_n ?_|refine s_i ?_|refine s_f ?_|refine s_b ?_|refine s_d ?_|refine s_l1 ?_|refine s_l2 ?_|refine s_l3 ?_|refine s_l4 ?_|refine s_l5 ?_|refine s_l6 ?_|refine s_l7 ?_|refine s_l8 ?_|refine s_l9 ?_|refine s_g ?_|refine s_q ?_|refine s_e ?_|refine s_j ?_)
    exact ret1 rfl rfl ⟨by rw [decide_eq_true]; exact gi_ext (by omega) (by rwa [← hnx]), hka⟩
theorem sameInts_same {w : World} {v u : Value} {xs : List Int} {fp gp : List Nat} (hx : Sl intR w v xs fp) (hy : Sl intR w u xs gp) : Run Try.prog 19 [v, u] w (fun r w' => r = .bool true ∧ Keep w w') :=
  (sameInts_ok hx hy).mono fun r w' h => by simpa using h
end Go.E

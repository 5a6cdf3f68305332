/-
  Contracts: valid items, known numbers, the numbers of items. Conditions: as stated.
-/
import Derived.Test.YtpdhdnmcafjadaaRa
set_option linter.unusedVariables false
set_option linter.unusedSimpArgs false
namespace Go.E
open Go Go.RowKit Go.Proofs
attribute [local irreducible] W WL WD WE thenE inE retQ PureOp Keep Cell Cells Blk Sl Rows Own Src Fresh

/-- item i of a list is valid, and its number is above the one ahead of it -/
def itAt (L : List Itm) (i : Nat) : Bool := isItem (gi L (i : Int)) && (decide (i = 0) || decide ((gi L ((i : Int) - 1)).id < (gi L (i : Int)).id))
def areItems (L : List Itm) : Bool := allB L.length (itAt L) && decide (L.length ≤ 16)
def areKnown (L : List Itm) (ids : List Int) : Bool := allB ids.length fun i => decide (0 ≤ findI L (gi ids (i : Int)))
def idsOf (L : List Itm) : List Int := L.map Itm.id
theorem idsOf_len (L : List Itm) : (idsOf L).length = L.length := by simp [idsOf]

theorem spec_AreItems_ok {w : World} {v : Value} {L : List Itm} {fp : List Nat} (hx : Sl itemR w v L fp) : Run Try.prog 28 [v] w (fun r w' => r = .bool (areItems L) ∧ Keep w w') := by
  have hn := hx.le
  obtain ⟨A, n, c, rfl, hnx⟩ := hx.split
  refine Run_intro Try.func28 (by unfold CallOk; kernel_rfl) rfl Try.ntmps28 (Nat.le_of_ble_eq_true rfl) ?_
  simp only [penv, Nat.reduceAdd, Nat.zero_add]
  repeat (first|refine z_1 ?_|refine z_2 ?_|refine s_o ?_|refine z_3 ?_|refine z_4 ?_|refine z_5 ?_|refine z_6 ?_|refine z_7 ?_|refine z_8 ?_|refine z_9 ?_|refine z_a ?_|refine z_b ?_|refine z_d ?_|refine z_e ?_|refine z_f ?_|refine z_g ?_|refine z_h ?_|refine z_i ?_|refine z_j ?_|refine s_a ?_|refine s_s ?_|refine s_n ?_|refine s_i ?_|refine s_f ?_|refine s_b ?_|refine s_d ?_|refine s_l1 ?_|refine s_l2 ?_|refine s_l3 ?_|refine s_l4 ?_|refine s_l5 ?_|refine s_l6 ?_|refine s_l7 ?_|refine s_l8 ?_|refine s_l9 ?_|refine s_g ?_|refine s_q ?_|refine s_e ?_|refine s_j ?_)
  refine W_loop (S := Nat) (fun k => [(0, .slice A n c), (3, .int .i64 (k : Int))]) (fun k w' => Keep w w' ∧ k ≤ n ∧ ∀ i, i < k → itAt L i = true) (fun k => n - k) 0 ⟨rfl, rfl, trivial⟩ ⟨Keep.refl _, Nat.zero_le _, fun i hi => absurd hi (by omega)⟩ ?_
  rintro k w1 ⟨hk1, hk, hall⟩
  replace hx := hx.keep hk1
  repeat (first|refine z_1 ?_|refine z_2 ?_|refine s_o ?_|refine z_3 ?_|refine z_4 ?_|refine z_5 ?_|refine z_6 ?_|refine z_7 ?_|refine z_8 ?_|refine z_9 ?_|refine z_a ?_|refine z_b ?_|refine z_d ?_|refine z_e ?_|refine z_f ?_|refine z_g ?_|refine z_h ?_|refine z_i ?_|refine z_j ?_|refine s_a ?_|refine s_s ?_|refine s_n ?_|refine s_i ?_|refine s_f ?_|refine s_b ?_|refine s_d ?_|refine s_l1 ?_|refine s_l2 ?_|refine s_l3 ?_|refine s_l4 ?_|refine s_l5 ?_|refine s_l6 ?_|refine s_l7 ?_|refine s_l8 ?_|refine s_l9 ?_|refine s_g ?_|refine s_q ?_|refine s_e ?_|refine s_j ?_)
  refine W_cond rfl (fun hc => ?_) (fun hc => ?_)
  · have hkn : k < n := by simp at hc; omega
    obtain ⟨hA, u, f1, hcell, hu, _⟩ := item_get hx (i := (k : Int)) (by omega) (by omega)
    repeat (first|refine z_1 ?_|refine z_2 ?_|refine s_o ?_|refine z_3 ?_|refine z_4 ?_|refine z_5 ?_|refine z_6 ?_|refine z_7 ?_|refine z_8 ?_|refine z_9 ?_|refine z_a ?_|refine z_b ?_|refine z_d ?_|refine z_e ?_|refine z_f ?_|refine z_g ?_|refine z_h ?_|refine z_i ?_|refine z_j ?_|refine s_a ?_|refine s_s ?_|refine s_n ?_|refine s_i ?_|refine s_f ?_|refine s_b ?_|refine s_d ?_|refine s_l1 ?_|refine s_l2 ?_|refine s_l3 ?_|refine s_l4 ?_|refine s_l5 ?_|refine s_l6 ?_|refine s_l7 ?_|refine s_l8 ?_|refine s_l9 ?_|refine s_g ?_|refine s_q ?_|refine s_e ?_|refine s_j ?_)
    refine W_quiet (Keep w1) (by kernel_rfl) (by kernel_rfl) (Keep.drew _) ?_
    repeat (first|refine q_o ?_|refine z_k ?_|refine q_a ?_|refine q_s ?_|refine q_n ?_|refine q_i ?_|refine q_f ?_|refine q_b ?_|refine q_d ?_|refine q_l1 ?_|refine q_l2 ?_|refine q_l3 ?_|refine q_l4 ?_|refine q_l5 ?_|refine q_l6 ?_|refine q_l7 ?_|refine q_l8 ?_|refine q_l9 ?_|refine q_g ?_|refine q_q ?_|refine q_e ?_|refine q_j ?_|refine z_l ?_)
    refine WQ_call rfl rfl rfl (fun w' hw' => (spec_IsItem_ok (hu.keep hw')).kk hw') ?_
    repeat (first|refine q_o ?_|refine z_k ?_|refine q_a ?_|refine q_s ?_|refine q_n ?_|refine q_i ?_|refine q_f ?_|refine q_b ?_|refine q_d ?_|refine q_l1 ?_|refine q_l2 ?_|refine q_l3 ?_|refine q_l4 ?_|refine q_l5 ?_|refine q_l6 ?_|refine q_l7 ?_|refine q_l8 ?_|refine q_l9 ?_|refine q_g ?_|refine q_q ?_|refine q_e ?_|refine q_j ?_|refine z_l ?_)
    refine WQ_part rfl rfl (fun h => ?_) (fun h => ?_)
    · repeat (first|refine q_o ?_|refine z_k ?_|refine q_a ?_|refine q_s ?_|refine q_n ?_|refine q_i ?_|refine q_f ?_|refine q_b ?_|refine q_d ?_|refine q_l1 ?_|refine q_l2 ?_|refine q_l3 ?_|refine q_l4 ?_|refine q_l5 ?_|refine q_l6 ?_|refine q_l7 ?_|refine q_l8 ?_|refine q_l9 ?_|refine q_g ?_|refine q_q ?_|refine q_e ?_|refine q_j ?_|refine z_l ?_)
      intro w2 hk2 
      repeat (first|refine z_1 ?_|refine z_2 ?_|refine s_o ?_|refine z_3 ?_|refine z_4 ?_|refine z_5 ?_|refine z_6 ?_|refine z_7 ?_|refine z_8 ?_|refine z_9 ?_|refine z_a ?_|refine z_b ?_|refine z_d ?_|refine z_e ?_|refine z_f ?_|refine z_g ?_|refine z_h ?_|refine z_i ?_|refine z_j ?_|refine s_a ?_|refine s_s ?_|refine s_n ?_|refine s_i ?_|refine s_f ?_|refine s_b ?_|refine s_d ?_|refine s_l1 ?_|refine s_l2 ?_|refine s_l3 ?_|refine s_l4 ?_|refine s_l5 ?_|refine s_l6 ?_|refine s_l7 ?_|refine s_l8 ?_|refine s_l9 ?_|refine s_g ?_|refine s_q ?_|refine s_e ?_|refine s_j ?_)
      refine ret1 rfl rfl ⟨?_, hk1.keep hk2⟩
      simp at h
      rw [areItems, allB_false (k := k) (by omega) (by simp [itAt, h]), Bool.false_and]
    · simp at h
      repeat (first|refine q_o ?_|refine z_k ?_|refine q_a ?_|refine q_s ?_|refine q_n ?_|refine q_i ?_|refine q_f ?_|refine q_b ?_|refine q_d ?_|refine q_l1 ?_|refine q_l2 ?_|refine q_l3 ?_|refine q_l4 ?_|refine q_l5 ?_|refine q_l6 ?_|refine q_l7 ?_|refine q_l8 ?_|refine q_l9 ?_|refine q_g ?_|refine q_q ?_|refine q_e ?_|refine q_j ?_|refine z_l ?_)
      refine WQ_part rfl rfl (fun h2 => ?_) (fun h2 => ?_)
      · simp at h2
        obtain ⟨hA', u', f2, hcell', hu', _⟩ := item_get hx (i := (k : Int) - 1) (by omega) (by omega)
        repeat (first|refine q_o ?_|refine z_k ?_|refine q_a ?_|refine q_s ?_|refine q_n ?_|refine q_i ?_|refine q_f ?_|refine q_b ?_|refine q_d ?_|refine q_l1 ?_|refine q_l2 ?_|refine q_l3 ?_|refine q_l4 ?_|refine q_l5 ?_|refine q_l6 ?_|refine q_l7 ?_|refine q_l8 ?_|refine q_l9 ?_|refine q_g ?_|refine q_q ?_|refine q_e ?_|refine q_j ?_|refine z_l ?_)
        intro w2 hk2 
        repeat (first|refine z_1 ?_|refine z_2 ?_|refine s_o ?_|refine z_3 ?_|refine z_4 ?_|refine z_5 ?_|refine z_6 ?_|refine z_7 ?_|refine z_8 ?_|refine z_9 ?_|refine z_a ?_|refine z_b ?_|refine z_d ?_|refine z_e ?_|refine z_f ?_|refine z_g ?_|refine z_h ?_|refine z_i ?_|refine z_j ?_|refine s_a ?_|refine s_s ?_|refine s_n ?_|refine s_i ?_|refine s_f ?_|refine s_b ?_|refine s_d ?_|refine s_l1 ?_|refine s_l2 ?_|refine s_l3 ?_|refine s_l4 ?_|refine s_l5 ?_|refine s_l6 ?_|refine s_l7 ?_|refine s_l8 ?_|refine s_l9 ?_|refine s_g ?_|refine s_q ?_|refine s_e ?_|refine s_j ?_)
        refine W_cond rfl (fun h3 => ?_) (fun h3 => ?_)
        · repeat (first|refine z_1 ?_|refine z_2 ?_|refine s_o ?_|refine z_3 ?_|refine z_4 ?_|refine z_5 ?_|refine z_6 ?_|refine z_7 ?_|refine z_8 ?_|refine z_9 ?_|refine z_a ?_|refine z_b ?_|refine z_d ?_|refine z_e ?_|refine z_f ?_|refine z_g ?_|refine z_h ?_|refine z_i ?_|refine z_j ?_|refine s_a ?_|refine s_s ?_|refine s_n ?_|refine s_i ?_|refine s_f ?_|refine s_b ?_|refine s_d ?_|refine s_l1 ?_|refine s_l2 ?_|refine s_l3 ?_|refine s_l4 ?_|refine s_l5 ?_|refine s_l6 ?_|refine s_l7 ?_|refine s_l8 ?_|refine s_l9 ?_|refine s_g ?_|refine s_q ?_|refine s_e ?_|refine s_j ?_)
          refine ret1 rfl rfl ⟨?_, hk1.keep hk2⟩
          simp at h3
          rw [areItems, allB_false (k := k) (by omega) (by simp [itAt, h, h3]; omega), Bool.false_and]
        · simp at h3
          repeat (first|refine z_1 ?_|refine z_2 ?_|refine s_o ?_|refine z_3 ?_|refine z_4 ?_|refine z_5 ?_|refine z_6 ?_|refine z_7 ?_|refine z_8 ?_|refine z_9 ?_|refine z_a ?_|refine z_b ?_|refine z_d ?_|refine z_e ?_|refine z_f ?_|refine z_g ?_|refine z_h ?_|refine z_i ?_|refine z_j ?_|refine s_a ?_|refine s_s ?_|refine s_n ?_|refine s_i ?_|refine s_f ?_|refine s_b ?_|refine s_d ?_|refine s_l1 ?_|refine s_l2 ?_|refine s_l3 ?_|refine s_l4 ?_|refine s_l5 ?_|refine s_l6 ?_|refine s_l7 ?_|refine s_l8 ?_|refine s_l9 ?_|refine s_g ?_|refine s_q ?_|refine s_e ?_|refine s_j ?_)
          exact ⟨k + 1, ⟨rfl, rfl, trivial⟩, ⟨hk1.keep hk2, by omega, all_step hall (by simp [itAt, h, h3])⟩, by omega⟩
      · simp at h2
        repeat (first|refine q_o ?_|refine z_k ?_|refine q_a ?_|refine q_s ?_|refine q_n ?_|refine q_i ?_|refine q_f ?_|refine q_b ?_|refine q_d ?_|refine q_l1 ?_|refine q_l2 ?_|refine q_l3 ?_|refine q_l4 ?_|refine q_l5 ?_|refine q_l6 ?_|refine q_l7 ?_|refine q_l8 ?_|refine q_l9 ?_|refine q_g ?_|refine q_q ?_|refine q_e ?_|refine q_j ?_|refine z_l ?_)
        intro w2 hk2 
        repeat (first|refine z_1 ?_|refine z_2 ?_|refine s_o ?_|refine z_3 ?_|refine z_4 ?_|refine z_5 ?_|refine z_6 ?_|refine z_7 ?_|refine z_8 ?_|refine z_9 ?_|refine z_a ?_|refine z_b ?_|refine z_d ?_|refine z_e ?_|refine z_f ?_|refine z_g ?_|refine z_h ?_|refine z_i ?_|refine z_j ?_|refine s_a ?_|refine s_s ?_|refine s_n ?_|refine s_i ?_|refine s_f ?_|refine s_b ?_|refine s_d ?_|refine s_l1 ?_|refine s_l2 ?_|refine s_l3 ?_|refine s_l4 ?_|refine s_l5 ?_|refine s_l6 ?_|refine s_l7 ?_|refine s_l8 ?_|refine s_l9 ?_|refine s_g ?_|refine s_q ?_|refine s_e ?_|refine s_j ?_)
        exact ⟨k + 1, ⟨rfl, rfl, trivial⟩, ⟨hk1.keep hk2, by omega, all_step hall (by simp [itAt, h]; omega)⟩, by omega⟩
  · simp at hc
    obtain rfl : k = n := by omega
    repeat (first|refine z_1 ?_|refine z_2 ?_|refine s_o ?_|refine z_3 ?_|refine z_4 ?_|refine z_5 ?_|refine z_6 ?_|refine z_7 ?_|refine z_8 ?_|refine z_9 ?_|refine z_a ?_|refine z_b ?_|refine z_d ?_|refine z_e ?_|refine z_f ?_|refine z_g ?_|refine z_h ?_|refine z_i ?_|refine z_j ?_|refine s_a ?_|refine s_s ?_|refine s_n ?_|refine s_i ?_|refine s_f ?_|refine s_b ?_|refine s_d ?_|refine s_l1 ?_|refine s_l2 ?_|refine s_l3 ?_|refine s_l4 ?_|refine s_l5 ?_|refine s_l6 ?_|refine s_l7 ?_|refine s_l8 ?_|refine s_l9 ?_|refine s_g ?_|refine s_q ?_|refine s_e ?_|refine s_j ?_)
    refine ret1 rfl rfl ⟨?_, hk1⟩
    rw [areItems, allB_true (by rwa [← hnx]), Bool.true_and, ← hnx]
    congr 1
    rw [decide_eq_decide]; omega

theorem impl_AreItems_ok {w : World} {v : Value} {L : List Itm} {fp : List Nat} (hx : Sl itemR w v L fp) : Run Try.prog 117 [v] w (fun r w' => r = .bool (areItems L) ∧ Keep w w') := by
  have hn := hx.le
  obtain ⟨A, n, c, rfl, hnx⟩ := hx.split
  refine Run_intro Try.func117 (by unfold CallOk; kernel_rfl) rfl Try.ntmps117 (Nat.le_of_ble_eq_true rfl) ?_
  simp only [penv, Nat.reduceAdd, Nat.zero_add]
  repeat (first|refine z_1 ?_|refine z_2 ?_|refine s_o ?_|refine z_3 ?_|refine z_4 ?_|refine z_5 ?_|refine z_6 ?_|refine z_7 ?_|refine z_8 ?_|refine z_9 ?_|refine z_a ?_|refine z_b ?_|refine z_d ?_|refine z_e ?_|refine z_f ?_|refine z_g ?_|refine z_h ?_|refine z_i ?_|refine z_j ?_|refine s_a ?_|refine s_s ?_|refine s_n ?_|refine s_i ?_|refine s_f ?_|refine s_b ?_|refine s_d ?_|refine s_l1 ?_|refine s_l2 ?_|refine s_l3 ?_|refine s_l4 ?_|refine s_l5 ?_|refine s_l6 ?_|refine s_l7 ?_|refine s_l8 ?_|refine s_l9 ?_|refine s_g ?_|refine s_q ?_|refine s_e ?_|refine s_j ?_)
  refine W_loop (S := Nat) (fun k => [(0, .slice A n c), (5, .slice A n c), (6, .int .i64 n), (7, .int .i64 (k : Int))]) (fun k w' => Keep w w' ∧ k ≤ n ∧ ∀ i, i < k → itAt L i = true) (fun k => n - k) 0 ⟨rfl, rfl, rfl, rfl, trivial⟩ ⟨Keep.refl _, Nat.zero_le _, fun i hi => absurd hi (by omega)⟩ ?_
  rintro k w1 ⟨hk1, hk, hall⟩
  replace hx := hx.keep hk1
  repeat (first|refine z_1 ?_|refine z_2 ?_|refine s_o ?_|refine z_3 ?_|refine z_4 ?_|refine z_5 ?_|refine z_6 ?_|refine z_7 ?_|refine z_8 ?_|refine z_9 ?_|refine z_a ?_|refine z_b ?_|refine z_d ?_|refine z_e ?_|refine z_f ?_|refine z_g ?_|refine z_h ?_|refine z_i ?_|refine z_j ?_|refine s_a ?_|refine s_s ?_|refine s_n ?_|refine s_i ?_|refine s_f ?_|refine s_b ?_|refine s_d ?_|refine s_l1 ?_|refine s_l2 ?_|refine s_l3 ?_|refine s_l4 ?_|refine s_l5 ?_|refine s_l6 ?_|refine s_l7 ?_|refine s_l8 ?_|refine s_l9 ?_|refine s_g ?_|refine s_q ?_|refine s_e ?_|refine s_j ?_)
  refine W_cond rfl (fun hc => ?_) (fun hc => ?_)
  · have hkn : k < n := by simp at hc; omega
    obtain ⟨hA, u, f1, hcell, hu, _⟩ := item_get hx (i := (k : Int)) (by omega) (by omega)
    have hdu := hu.dom
    have hdx := hx.dom
    have hz1 := hk1.size_le
    repeat (first|refine z_1 ?_|refine z_2 ?_|refine s_o ?_|refine z_3 ?_|refine z_4 ?_|refine z_5 ?_|refine z_6 ?_|refine z_7 ?_|refine z_8 ?_|refine z_9 ?_|refine z_a ?_|refine z_b ?_|refine z_d ?_|refine z_e ?_|refine z_f ?_|refine z_g ?_|refine z_h ?_|refine z_i ?_|refine z_j ?_|refine s_a ?_|refine s_s ?_|refine s_n ?_|refine s_i ?_|refine s_f ?_|refine s_b ?_|refine s_d ?_|refine s_l1 ?_|refine s_l2 ?_|refine s_l3 ?_|refine s_l4 ?_|refine s_l5 ?_|refine s_l6 ?_|refine s_l7 ?_|refine s_l8 ?_|refine s_l9 ?_|refine s_g ?_|refine s_q ?_|refine s_e ?_|refine s_j ?_)
    refine o_alloc rfl rfl ?_
    intro b2 w2 hal2
    have hb2 := hal2.blk
    have hs2 := hal2.b_eq
    replace hu := hu.keep hal2.kp
    replace hx := hx.keep hal2.kp
    replace hk1 := hk1.keep hal2.kp
    repeat (first|refine z_1 ?_|refine z_2 ?_|refine s_o ?_|refine z_3 ?_|refine z_4 ?_|refine z_5 ?_|refine z_6 ?_|refine z_7 ?_|refine z_8 ?_|refine z_9 ?_|refine z_a ?_|refine z_b ?_|refine z_d ?_|refine z_e ?_|refine z_f ?_|refine z_g ?_|refine z_h ?_|refine z_i ?_|refine z_j ?_|refine s_a ?_|refine s_s ?_|refine s_n ?_|refine s_i ?_|refine s_f ?_|refine s_b ?_|refine s_d ?_|refine s_l1 ?_|refine s_l2 ?_|refine s_l3 ?_|refine s_l4 ?_|refine s_l5 ?_|refine s_l6 ?_|refine s_l7 ?_|refine s_l8 ?_|refine s_l9 ?_|refine s_g ?_|refine s_q ?_|refine s_e ?_|refine s_j ?_)
    refine o_storeS (b := b2) (off := 0) rfl rfl rfl rfl (fun v hv => ?_) rfl hb2 (by simp) ?_
    · simp only [List.mem_cons, List.not_mem_nil, or_false] at hv
      rcases hv with rfl | rfl
      · rfl
      · exact hu.oneCell
    intro w3 hu3
    have hb3 : Blk w3 b2 _ [.int .i64 (gi L (k : Int)).id, u] := hu3.blk
    replace hk1 := hk1.upd hu3 (by omega)
    replace hu := hu.upd hu3 (fun hm => by have := hdu _ hm; omega)
    replace hx := hx.upd hu3 (fun hm => by have := hdx _ hm; omega)
    clear hcell
    repeat (first|refine z_1 ?_|refine z_2 ?_|refine s_o ?_|refine z_3 ?_|refine z_4 ?_|refine z_5 ?_|refine z_6 ?_|refine z_7 ?_|refine z_8 ?_|refine z_9 ?_|refine z_a ?_|refine z_b ?_|refine z_d ?_|refine z_e ?_|refine z_f ?_|refine z_g ?_|refine z_h ?_|refine z_i ?_|refine z_j ?_|refine s_a ?_|refine s_s ?_|refine s_n ?_|refine s_i ?_|refine s_f ?_|refine s_b ?_|refine s_d ?_|refine s_l1 ?_|refine s_l2 ?_|refine s_l3 ?_|refine s_l4 ?_|refine s_l5 ?_|refine s_l6 ?_|refine s_l7 ?_|refine s_l8 ?_|refine s_l9 ?_|refine s_g ?_|refine s_q ?_|refine s_e ?_|refine s_j ?_)
    refine W_quiet (Keep w3) (by kernel_rfl) (by kernel_rfl) (Keep.drew _) ?_
    repeat (first|refine q_o ?_|refine z_k ?_|refine q_a ?_|refine q_s ?_|refine q_n ?_|refine q_i ?_|refine q_f ?_|refine q_b ?_|refine q_d ?_|refine q_l1 ?_|refine q_l2 ?_|refine q_l3 ?_|refine q_l4 ?_|refine q_l5 ?_|refine q_l6 ?_|refine q_l7 ?_|refine q_l8 ?_|refine q_l9 ?_|refine q_g ?_|refine q_q ?_|refine q_e ?_|refine q_j ?_|refine z_l ?_)
    refine WQ_call rfl rfl rfl (fun w' hw' => (impl_IsItem_ok (hu.keep hw')).kk hw') ?_
    repeat (first|refine q_o ?_|refine z_k ?_|refine q_a ?_|refine q_s ?_|refine q_n ?_|refine q_i ?_|refine q_f ?_|refine q_b ?_|refine q_d ?_|refine q_l1 ?_|refine q_l2 ?_|refine q_l3 ?_|refine q_l4 ?_|refine q_l5 ?_|refine q_l6 ?_|refine q_l7 ?_|refine q_l8 ?_|refine q_l9 ?_|refine q_g ?_|refine q_q ?_|refine q_e ?_|refine q_j ?_|refine z_l ?_)
    refine WQ_part rfl rfl (fun h => ?_) (fun h => ?_)
    · repeat (first|refine q_o ?_|refine z_k ?_|refine q_a ?_|refine q_s ?_|refine q_n ?_|refine q_i ?_|refine q_f ?_|refine q_b ?_|refine q_d ?_|refine q_l1 ?_|refine q_l2 ?_|refine q_l3 ?_|refine q_l4 ?_|refine q_l5 ?_|refine q_l6 ?_|refine q_l7 ?_|refine q_l8 ?_|refine q_l9 ?_|refine q_g ?_|refine q_q ?_|refine q_e ?_|refine q_j ?_|refine z_l ?_)
      intro w2 hk2 
      repeat (first|refine z_1 ?_|refine z_2 ?_|refine s_o ?_|refine z_3 ?_|refine z_4 ?_|refine z_5 ?_|refine z_6 ?_|refine z_7 ?_|refine z_8 ?_|refine z_9 ?_|refine z_a ?_|refine z_b ?_|refine z_d ?_|refine z_e ?_|refine z_f ?_|refine z_g ?_|refine z_h ?_|refine z_i ?_|refine z_j ?_|refine s_a ?_|refine s_s ?_|refine s_n ?_|refine s_i ?_|refine s_f ?_|refine s_b ?_|refine s_d ?_|refine s_l1 ?_|refine s_l2 ?_|refine s_l3 ?_|refine s_l4 ?_|refine s_l5 ?_|refine s_l6 ?_|refine s_l7 ?_|refine s_l8 ?_|refine s_l9 ?_|refine s_g ?_|refine s_q ?_|refine s_e ?_|refine s_j ?_)
      refine ret1 rfl rfl ⟨?_, hk1.keep hk2⟩
      simp at h
      rw [areItems, allB_false (k := k) (by omega) (by simp [itAt, h]), Bool.false_and]
    · simp at h
      repeat (first|refine q_o ?_|refine z_k ?_|refine q_a ?_|refine q_s ?_|refine q_n ?_|refine q_i ?_|refine q_f ?_|refine q_b ?_|refine q_d ?_|refine q_l1 ?_|refine q_l2 ?_|refine q_l3 ?_|refine q_l4 ?_|refine q_l5 ?_|refine q_l6 ?_|refine q_l7 ?_|refine q_l8 ?_|refine q_l9 ?_|refine q_g ?_|refine q_q ?_|refine q_e ?_|refine q_j ?_|refine z_l ?_)
      refine WQ_part rfl rfl (fun h2 => ?_) (fun h2 => ?_)
      · simp at h2
        obtain ⟨hA', u', f2, hcell', hu', _⟩ := item_get hx (i := (k : Int) - 1) (by omega) (by omega)
        repeat (first|refine q_o ?_|refine z_k ?_|refine q_a ?_|refine q_s ?_|refine q_n ?_|refine q_i ?_|refine q_f ?_|refine q_b ?_|refine q_d ?_|refine q_l1 ?_|refine q_l2 ?_|refine q_l3 ?_|refine q_l4 ?_|refine q_l5 ?_|refine q_l6 ?_|refine q_l7 ?_|refine q_l8 ?_|refine q_l9 ?_|refine q_g ?_|refine q_q ?_|refine q_e ?_|refine q_j ?_|refine z_l ?_)
        intro w2 hk2 
        repeat (first|refine z_1 ?_|refine z_2 ?_|refine s_o ?_|refine z_3 ?_|refine z_4 ?_|refine z_5 ?_|refine z_6 ?_|refine z_7 ?_|refine z_8 ?_|refine z_9 ?_|refine z_a ?_|refine z_b ?_|refine z_d ?_|refine z_e ?_|refine z_f ?_|refine z_g ?_|refine z_h ?_|refine z_i ?_|refine z_j ?_|refine s_a ?_|refine s_s ?_|refine s_n ?_|refine s_i ?_|refine s_f ?_|refine s_b ?_|refine s_d ?_|refine s_l1 ?_|refine s_l2 ?_|refine s_l3 ?_|refine s_l4 ?_|refine s_l5 ?_|refine s_l6 ?_|refine s_l7 ?_|refine s_l8 ?_|refine s_l9 ?_|refine s_g ?_|refine s_q ?_|refine s_e ?_|refine s_j ?_)
        refine W_cond rfl (fun h3 => ?_) (fun h3 => ?_)
        · repeat (first|refine z_1 ?_|refine z_2 ?_|refine s_o ?_|refine z_3 ?_|refine z_4 ?_|refine z_5 ?_|refine z_6 ?_|refine z_7 ?_|refine z_8 ?_|refine z_9 ?_|refine z_a ?_|refine z_b ?_|refine z_d ?_|refine z_e ?_|refine z_f ?_|refine z_g ?_|refine z_h ?_|refine z_i ?_|refine z_j ?_|refine s_a ?_|refine s_s ?_|refine s_n ?_|refine s_i ?_|refine s_f ?_|refine s_b ?_|refine s_d ?_|refine s_l1 ?_|refine s_l2 ?_|refine s_l3 ?_|refine s_l4 ?_|refine s_l5 ?_|refine s_l6 ?_|refine s_l7 ?_|refine s_l8 ?_|refine s_l9 ?_|refine s_g ?_|refine s_q ?_|refine s_e ?_|refine s_j ?_)
          refine ret1 rfl rfl ⟨?_, hk1.keep hk2⟩
          simp at h3
          rw [areItems, allB_false (k := k) (by omega) (by simp [itAt, h, h3]; omega), Bool.false_and]
        · simp at h3
          repeat (first|refine z_1 ?_|refine z_2 ?_|refine s_o ?_|refine z_3 ?_|refine z_4 ?_|refine z_5 ?_|refine z_6 ?_|refine z_7 ?_|refine z_8 ?_|refine z_9 ?_|refine z_a ?_|refine z_b ?_|refine z_d ?_|refine z_e ?_|refine z_f ?_|refine z_g ?_|refine z_h ?_|refine z_i ?_|refine z_j ?_|refine s_a ?_|refine s_s ?_|refine s_n ?_|refine s_i ?_|refine s_f ?_|refine s_b ?_|refine s_d ?_|refine s_l1 ?_|refine s_l2 ?_|refine s_l3 ?_|refine s_l4 ?_|refine s_l5 ?_|refine s_l6 ?_|refine s_l7 ?_|refine s_l8 ?_|refine s_l9 ?_|refine s_g ?_|refine s_q ?_|refine s_e ?_|refine s_j ?_)
          exact ⟨k + 1, ⟨rfl, rfl, rfl, rfl, trivial⟩, ⟨hk1.keep hk2, by omega, all_step hall (by simp [itAt, h, h3])⟩, by omega⟩
      · simp at h2
        repeat (first|refine q_o ?_|refine z_k ?_|refine q_a ?_|refine q_s ?_|refine q_n ?_|refine q_i ?_|refine q_f ?_|refine q_b ?_|refine q_d ?_|refine q_l1 ?_|refine q_l2 ?_|refine q_l3 ?_|refine q_l4 ?_|refine q_l5 ?_|refine q_l6 ?_|refine q_l7 ?_|refine q_l8 ?_|refine q_l9 ?_|refine q_g ?_|refine q_q ?_|refine q_e ?_|refine q_j ?_|refine z_l ?_)
        intro w2 hk2 
        repeat (first|refine z_1 ?_|refine z_2 ?_|refine s_o ?_|refine z_3 ?_|refine z_4 ?_|refine z_5 ?_|refine z_6 ?_|refine z_7 ?_|refine z_8 ?_|refine z_9 ?_|refine z_a ?_|refine z_b ?_|refine z_d ?_|refine z_e ?_|refine z_f ?_|refine z_g ?_|refine z_h ?_|refine z_i ?_|refine z_j ?_|refine s_a ?_|refine s_s ?_|refine s_n ?_|refine s_i ?_|refine s_f ?_|refine s_b ?_|refine s_d ?_|refine s_l1 ?_|refine s_l2 ?_|refine s_l3 ?_|refine s_l4 ?_|refine s_l5 ?_|refine s_l6 ?_|refine s_l7 ?_|refine s_l8 ?_|refine s_l9 ?_|refine s_g ?_|refine s_q ?_|refine s_e ?_|refine s_j ?_)
        exact ⟨k + 1, ⟨rfl, rfl, rfl, rfl, trivial⟩, ⟨hk1.keep hk2, by omega, all_step hall (by simp [itAt, h]; omega)⟩, by omega⟩
  · simp at hc
    obtain rfl : k = n := by omega
    repeat (first|refine z_1 ?_|refine z_2 ?_|refine s_o ?_|refine z_3 ?_|refine z_4 ?_|refine z_5 ?_|refine z_6 ?_|refine z_7 ?_|refine z_8 ?_|refine z_9 ?_|refine z_a ?_|refine z_b ?_|refine z_d ?_|refine z_e ?_|refine z_f ?_|refine z_g ?_|refine z_h ?_|refine z_i ?_|refine z_j ?_|refine s_a ?_|refine s_s ?_|refine s_n ?_|refine s_i ?_|refine s_f ?_|refine s_b ?_|refine s_d ?_|refine s_l1 ?_|refine s_l2 ?_|refine s_l3 ?_|refine s_l4 ?_|refine s_l5 ?_|refine s_l6 ?_|refine s_l7 ?_|refine s_l8 ?_|refine s_l9 ?_|refine s_g ?_|refine s_q ?_|refine s_e ?_|refine s_j ?_)
    refine ret1 rfl rfl ⟨?_, hk1⟩
    rw [areItems, allB_true (by rwa [← hnx]), Bool.true_and, ← hnx]
    congr 1
    rw [decide_eq_decide]; omega

theorem take_ids {L : List Itm} {k : Nat} (h : k < L.length) : idsOf (L.take (k + 1)) = idsOf (L.take k) ++ [(gi L (k : Int)).id] := by
  rw [take_gi h]; simp [idsOf]

end Go.E

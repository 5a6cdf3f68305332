/-
  Contracts on pairs and wishes, by the program: the table of what is above what, valid pairs, valid wishes. Conditions: as stated.
-/
import Derived.Test.YtdenoambgonomaaW1
import Derived.Test.YtdenoambgonomaaFa
set_option linter.unusedVariables false
set_option linter.unusedSimpArgs false
namespace Go.E
open Go Go.RowKit Go.Proofs
theorem Grid.cellN {w : World} {b : Nat} {t : TypeId} {cs : List Value} {f : Nat → Nat → Bool} (h : Grid cs f) (hb : Blk w b t cs) {i j : Nat} (hi : i < 10) (hj : j < 10) : Cell w (ea (ea (some ⟨b, 0, none⟩) 10 (i : Int)) 1 (j : Int)) (.bool (f i j)) := by
  rw [ea2_blk]
  exact hb.cell (h.val i j hi hj)
theorem ea2_int {b : Nat} {i j : Int} : ea (ea (some ⟨b, 0, none⟩) 10 i) 1 j = some ⟨b, i.toNat * 10 + j.toNat, none⟩ := by simp [ea, add_mk]
theorem grid_no : Grid (List.replicate 100 (Value.bool false)) (fun _ _ => false) :=
  ⟨by simp, fun i j hi hj => by rw [List.getElem?_replicate, if_pos (by omega)]⟩
/-- the table in round k at place (i, j): what lies ahead of it has been done -/
def fwG (l : List (Int × Int)) (k i j : Nat) (i' j' : Nat) : Bool := if i' < i ∨ (i' = i ∧ j' < j) then fwB l (k + 1) (i' : Int) (j' : Int) else fwB l k (i' : Int) (j' : Int)
theorem fw_row (l : List (Int × Int)) (k : Nat) (i : Int) : fwB l (k + 1) i (k : Int) = fwB l k i (k : Int) := by
  simp only [fwB]
  cases fwB l k i (k : Int) <;> simp
theorem fw_col (l : List (Int × Int)) (k : Nat) (j : Int) : fwB l (k + 1) (k : Int) j = fwB l k (k : Int) j := by
  simp only [fwB]
  cases fwB l k (k : Int) j <;> simp
theorem fwG_row (l : List (Int × Int)) (k i j i' : Nat) : fwG l k i j i' k = fwB l k (i' : Int) (k : Int) := by
  unfold fwG
  split
  · exact fw_row l k _
  · rfl
theorem fwG_col (l : List (Int × Int)) (k i j j' : Nat) : fwG l k i j k j' = fwB l k (k : Int) (j' : Int) := by
  unfold fwG
  split
  · exact fw_col l k _
  · rfl
theorem fwG_here (l : List (Int × Int)) (k i j : Nat) : fwG l k i j i j = fwB l k (i : Int) (j : Int) := by
  unfold fwG
  rw [if_neg (by omega)]
theorem fwG_step (l : List (Int × Int)) (k i j : Nat) {b : Bool} (hb : fwB l (k + 1) (i : Int) (j : Int) = b) : ∀ i' j', i' < 10 → j' < 10 → fwG l k i (j + 1) i' j' = if i' = i ∧ j' = j then b else fwG l k i j i' j' := by
  intro i' j' _ _
  unfold fwG
  by_cases h : i' = i ∧ j' = j
  · rw [if_pos h, if_pos (by omega), h.1, h.2, hb]
  · rw [if_neg h]
    by_cases h2 : i' < i ∨ (i' = i ∧ j' < j)
    · rw [if_pos h2, if_pos (by omega)]
    · rw [if_neg h2, if_neg (by omega)]
theorem fwG_next (l : List (Int × Int)) (k i : Nat) : ∀ i' j', i' < 10 → j' < 10 → fwG l k (i + 1) 0 i' j' = fwG l k i 10 i' j' := by
  intro i' j' _ _
  unfold fwG
  by_cases h : i' < i ∨ (i' = i ∧ j' < 10)
  · rw [if_pos h, if_pos (by omega)]
  · rw [if_neg h, if_neg (by omega)]
theorem fwG_first (l : List (Int × Int)) (k : Nat) : ∀ i' j', i' < 10 → j' < 10 → fwG l k 0 0 i' j' = fwB l k (i' : Int) (j' : Int) := by
  intro i' j' _ _
  unfold fwG
  rw [if_neg (by omega)]
theorem fwG_last (l : List (Int × Int)) (k : Nat) : ∀ i' j' : Nat, i' < 10 → j' < 10 → fwB l (k + 1) (i' : Int) (j' : Int) = fwG l k 10 0 i' j' := by
  intro i' j' _ _
  unfold fwG
  rw [if_pos (by omega)]
attribute [local irreducible] W WL WD WE thenE inE retQ PureOp Keep Cell Cells Blk Sl Rows Own Src Fresh
attribute [local irreducible] fwB

set_option maxHeartbeats 4000000 in
theorem above_ok {w : World} {v : Value} {l : List (Int × Int)} {fp : List Nat} (hx : Sl pairR w v l fp) (hp : prOk l = true) :
    Run Try.prog 191 [v] w (fun r w' => ∃ cs, r = .agg cs.toArray ∧ Grid cs (fun i j => reachB l (i : Int) (j : Int)) ∧ Keep w w') := by
  have hn := hx.le
  obtain ⟨A, n, c, rfl, hnx⟩ := hx.split
  refine Run_intro Try.func191 (by unfold CallOk; kernel_rfl) rfl Try.ntmps191 (Nat.le_of_ble_eq_true rfl) ?_
  simp only [penv, Nat.reduceAdd, Nat.zero_add]
  repeat (first|refine z_1 ?_|refine z_2 ?_|refine s_o ?_|refine z_3 ?_|refine z_4 ?_|refine z_5 ?_|refine z_6 ?_|refine z_7 ?_|refine z_8 ?_|refine z_9 ?_|refine z_a ?_|refine z_b ?_|refine z_d ?_|refine z_e ?_|refine z_f ?_|refine z_g ?_|refine z_h ?_|refine z_i ?_|refine z_j ?_|refine s_a ?_|refine s_s ?_|refine s_n ?_|refine s_i ?_|refine s_f ?_|refine s_b ?_|refine s_d ?_|refine s_l1 ?_|refine s_l2 ?_|refine s_l3 ?_|refine s_l4 ?_|refine s_l5 ?_|refine s_l6 ?_|refine s_l7 ?_|refine s_l8 ?_|refine s_l9 ?_|refine s_g ?_|refine s_q ?_|refine s_e ?_|refine s_j ?_)
  refine o_alloc rfl rfl ?_
  intro bZ w1 hal1
  have hbZ := hal1.blk
  have hk := hal1.kp
  have hsZ := hal1.b_eq
  have hzZ := hal1.size
  repeat (first|refine z_1 ?_|refine z_2 ?_|refine s_o ?_|refine z_3 ?_|refine z_4 ?_|refine z_5 ?_|refine z_6 ?_|refine z_7 ?_|refine z_8 ?_|refine z_9 ?_|refine z_a ?_|refine z_b ?_|refine z_d ?_|refine z_e ?_|refine z_f ?_|refine z_g ?_|refine z_h ?_|refine z_i ?_|refine z_j ?_|refine s_a ?_|refine s_s ?_|refine s_n ?_|refine s_i ?_|refine s_f ?_|refine s_b ?_|refine s_d ?_|refine s_l1 ?_|refine s_l2 ?_|refine s_l3 ?_|refine s_l4 ?_|refine s_l5 ?_|refine s_l6 ?_|refine s_l7 ?_|refine s_l8 ?_|refine s_l9 ?_|refine s_g ?_|refine s_q ?_|refine s_e ?_|refine s_j ?_)
  refine o_alloc rfl rfl ?_
  intro bG w2 hal2
  have hbG := hal2.blk
  have hsG := hal2.b_eq
  replace hbZ := hbZ.keep hal2.kp
  replace hk := hk.keep hal2.kp
  clear hal1 hal2
  repeat (first|refine z_1 ?_|refine z_2 ?_|refine s_o ?_|refine z_3 ?_|refine z_4 ?_|refine z_5 ?_|refine z_6 ?_|refine z_7 ?_|refine z_8 ?_|refine z_9 ?_|refine z_a ?_|refine z_b ?_|refine z_d ?_|refine z_e ?_|refine z_f ?_|refine z_g ?_|refine z_h ?_|refine z_i ?_|refine z_j ?_|refine s_a ?_|refine s_s ?_|refine s_n ?_|refine s_i ?_|refine s_f ?_|refine s_b ?_|refine s_d ?_|refine s_l1 ?_|refine s_l2 ?_|refine s_l3 ?_|refine s_l4 ?_|refine s_l5 ?_|refine s_l6 ?_|refine s_l7 ?_|refine s_l8 ?_|refine s_l9 ?_|refine s_g ?_|refine s_q ?_|refine s_e ?_|refine s_j ?_)
  refine W_loop (S := Nat × List Value) (fun s => [(2, .pointer (some ⟨bZ, 0, none⟩)), (3, .pointer (some ⟨bG, 0, none⟩)), (9, .slice A n c), (10, .int .i64 n), (11, .int .i64 (s.1 : Int))]) (fun s w' => Keep w w' ∧ s.1 ≤ n ∧ Blk w' bZ _ _ ∧ Blk w' bG _ s.2 ∧ Grid s.2 (fun i j => decide (((i : Int), (j : Int)) ∈ l.take s.1))) (fun s => n - s.1) (0, _) ⟨rfl, rfl, rfl, rfl, rfl, trivial⟩ ⟨hk, Nat.zero_le _, hbZ, hbG, by simpa using grid_no⟩ ?_
  clear hbZ hbG hk
  rintro ⟨k, cs⟩ wa ⟨hk, hkn, hbZ, hbG, hg⟩
  dsimp only at hkn hbG hg ⊢
  have hxa := hx.keep hk
  repeat (first|refine z_1 ?_|refine z_2 ?_|refine s_o ?_|refine z_3 ?_|refine z_4 ?_|refine z_5 ?_|refine z_6 ?_|refine z_7 ?_|refine z_8 ?_|refine z_9 ?_|refine z_a ?_|refine z_b ?_|refine z_d ?_|refine z_e ?_|refine z_f ?_|refine z_g ?_|refine z_h ?_|refine z_i ?_|refine z_j ?_|refine s_a ?_|refine s_s ?_|refine s_n ?_|refine s_i ?_|refine s_f ?_|refine s_b ?_|refine s_d ?_|refine s_l1 ?_|refine s_l2 ?_|refine s_l3 ?_|refine s_l4 ?_|refine s_l5 ?_|refine s_l6 ?_|refine s_l7 ?_|refine s_l8 ?_|refine s_l9 ?_|refine s_g ?_|refine s_q ?_|refine s_e ?_|refine s_j ?_)
  refine W_cond rfl (fun hc => ?_) (fun hc => ?_)
  · have hkl : k < n := by simp at hc; omega
    obtain ⟨hA, hcell⟩ := pair_get hxa (i := (k : Int)) (by omega) (by omega)
    have hpk := prOk_at hp (i := k) (by omega)
    have hGl := hbG.lt
    repeat (first|refine z_1 ?_|refine z_2 ?_|refine s_o ?_|refine z_3 ?_|refine z_4 ?_|refine z_5 ?_|refine z_6 ?_|refine z_7 ?_|refine z_8 ?_|refine z_9 ?_|refine z_a ?_|refine z_b ?_|refine z_d ?_|refine z_e ?_|refine z_f ?_|refine z_g ?_|refine z_h ?_|refine z_i ?_|refine z_j ?_|refine s_a ?_|refine s_s ?_|refine s_n ?_|refine s_i ?_|refine s_f ?_|refine s_b ?_|refine s_d ?_|refine s_l1 ?_|refine s_l2 ?_|refine s_l3 ?_|refine s_l4 ?_|refine s_l5 ?_|refine s_l6 ?_|refine s_l7 ?_|refine s_l8 ?_|refine s_l9 ?_|refine s_g ?_|refine s_q ?_|refine s_e ?_|refine s_j ?_)
    refine o_alloc rfl rfl ?_
    intro bR wR halR
    have hbR0 := halR.blk
    repeat (first|refine z_1 ?_|refine z_2 ?_|refine s_o ?_|refine z_3 ?_|refine z_4 ?_|refine z_5 ?_|refine z_6 ?_|refine z_7 ?_|refine z_8 ?_|refine z_9 ?_|refine z_a ?_|refine z_b ?_|refine z_d ?_|refine z_e ?_|refine z_f ?_|refine z_g ?_|refine z_h ?_|refine z_i ?_|refine z_j ?_|refine s_a ?_|refine s_s ?_|refine s_n ?_|refine s_i ?_|refine s_f ?_|refine s_b ?_|refine s_d ?_|refine s_l1 ?_|refine s_l2 ?_|refine s_l3 ?_|refine s_l4 ?_|refine s_l5 ?_|refine s_l6 ?_|refine s_l7 ?_|refine s_l8 ?_|refine s_l9 ?_|refine s_g ?_|refine s_q ?_|refine s_e ?_|refine s_j ?_)
    refine o_storeS (b := bR) (off := 0) rfl rfl rfl rfl (by repeat (first | exact ones_nil | refine ones_cons (by first | rfl | assumption) ?_)) rfl hbR0 (by simp) ?_
    intro wS huS
    have hbR : Blk wS bR _ [.int .i64 (gi l (k : Int)).1, .int .i64 (gi l (k : Int)).2] := huS.blk
    have hkS := halR.kp.upd huS (Nat.le_of_eq halR.b_eq.symm)
    have hRe := halR.b_eq
    clear hbR0 huS halR
    replace hk := hk.keep hkS
    replace hbZ := hbZ.keep hkS
    replace hbG := hbG.keep hkS
    have hRl : bR ≠ bG := by omega
    have hz := hk.size_le
    repeat (first|refine z_1 ?_|refine z_2 ?_|refine s_o ?_|refine z_3 ?_|refine z_4 ?_|refine z_5 ?_|refine z_6 ?_|refine z_7 ?_|refine z_8 ?_|refine z_9 ?_|refine z_a ?_|refine z_b ?_|refine z_d ?_|refine z_e ?_|refine z_f ?_|refine z_g ?_|refine z_h ?_|refine z_i ?_|refine z_j ?_|refine s_a ?_|refine s_s ?_|refine s_n ?_|refine s_i ?_|refine s_f ?_|refine s_b ?_|refine s_d ?_|refine s_l1 ?_|refine s_l2 ?_|refine s_l3 ?_|refine s_l4 ?_|refine s_l5 ?_|refine s_l6 ?_|refine s_l7 ?_|refine s_l8 ?_|refine s_l9 ?_|refine s_g ?_|refine s_q ?_|refine s_e ?_|refine s_j ?_)
    refine W_draw (fun w' => Blk w' bR 130 [.int .i64 (gi l (k : Int)).1, .int .i64 (gi l (k : Int)).2]) (by kernel_rfl) ?_
    replace hbR := hbR.keep (Keep.drew wS)
    replace hk := hk.keep (Keep.drew wS)
    replace hbZ := hbZ.keep (Keep.drew wS)
    replace hbG := hbG.keep (Keep.drew wS)
    first|refine d_o 0 ?_|refine d_a 0 ?_|refine d_s 0 ?_|refine d_n 0 ?_|refine d_i 0 ?_|refine d_f 0 ?_|refine d_b 0 ?_|refine d_d 0 ?_|refine d_l1 0 ?_|refine d_l2 0 ?_|refine d_l3 0 ?_|refine d_l4 0 ?_|refine d_l5 0 ?_|refine d_l6 0 ?_|refine d_l7 0 ?_|refine d_l8 0 ?_|refine d_l9 0 ?_|refine d_g 0 ?_|refine d_q 0 ?_|refine d_e 0 ?_|refine d_j 0 ?_
    refine WD_take 1 rfl (by kernel_rfl) (by kernel_rfl) (by kernel_rfl) (by repeat (first | exact np_ret | refine np_then ?_ | refine np_in ?_)) rfl rfl (fun _ hw' => o_load rfl (Blk.fcell hw' (by rfl))) (by assumption) ?_
    first|refine d_o 2 ?_|refine d_a 2 ?_|refine d_s 2 ?_|refine d_n 2 ?_|refine d_i 2 ?_|refine d_f 2 ?_|refine d_b 2 ?_|refine d_d 2 ?_|refine d_l1 2 ?_|refine d_l2 2 ?_|refine d_l3 2 ?_|refine d_l4 2 ?_|refine d_l5 2 ?_|refine d_l6 2 ?_|refine d_l7 2 ?_|refine d_l8 2 ?_|refine d_l9 2 ?_|refine d_g 2 ?_|refine d_q 2 ?_|refine d_e 2 ?_|refine d_j 2 ?_
    refine WD_take 3 rfl (by kernel_rfl) (by kernel_rfl) (by kernel_rfl) (by repeat (first | exact np_ret | refine np_then ?_ | refine np_in ?_)) rfl rfl (fun _ hw' => o_load rfl (Blk.fcell hw' (by rfl))) (by assumption) ?_
    first|refine d_o 4 ?_|refine d_a 4 ?_|refine d_s 4 ?_|refine d_n 4 ?_|refine d_i 4 ?_|refine d_f 4 ?_|refine d_b 4 ?_|refine d_d 4 ?_|refine d_l1 4 ?_|refine d_l2 4 ?_|refine d_l3 4 ?_|refine d_l4 4 ?_|refine d_l5 4 ?_|refine d_l6 4 ?_|refine d_l7 4 ?_|refine d_l8 4 ?_|refine d_l9 4 ?_|refine d_g 4 ?_|refine d_q 4 ?_|refine d_e 4 ?_|refine d_j 4 ?_
    first|refine d_o 5 ?_|refine d_a 5 ?_|refine d_s 5 ?_|refine d_n 5 ?_|refine d_i 5 ?_|refine d_f 5 ?_|refine d_b 5 ?_|refine d_d 5 ?_|refine d_l1 5 ?_|refine d_l2 5 ?_|refine d_l3 5 ?_|refine d_l4 5 ?_|refine d_l5 5 ?_|refine d_l6 5 ?_|refine d_l7 5 ?_|refine d_l8 5 ?_|refine d_l9 5 ?_|refine d_g 5 ?_|refine d_q 5 ?_|refine d_e 5 ?_|refine d_j 5 ?_
    refine WD_one 6 (by kernel_rfl) rfl ?_
    have hl100 := hg.len
    refine o_store1 rfl rfl ea2_int rfl rfl hbG (by omega) ?_
    intro w4 hu4
    have hbG4 := hu4.blk
    have hbR4 := hbR.upd hu4 hRl
    have hbZ4 := hbZ.upd hu4 (by omega)
    have hk4 := hk.upd hu4 (by omega)
    refine WL_end ⟨hbR4, ?_⟩
    refine WD_done (by kernel_rfl) ?_
    repeat (first|refine z_1 ?_|refine z_2 ?_|refine s_o ?_|refine z_3 ?_|refine z_4 ?_|refine z_5 ?_|refine z_6 ?_|refine z_7 ?_|refine z_8 ?_|refine z_9 ?_|refine z_a ?_|refine z_b ?_|refine z_d ?_|refine z_e ?_|refine z_f ?_|refine z_g ?_|refine z_h ?_|refine z_i ?_|refine z_j ?_|refine s_a ?_|refine s_s ?_|refine s_n ?_|refine s_i ?_|refine s_f ?_|refine s_b ?_|refine s_d ?_|refine s_l1 ?_|refine s_l2 ?_|refine s_l3 ?_|refine s_l4 ?_|refine s_l5 ?_|refine s_l6 ?_|refine s_l7 ?_|refine s_l8 ?_|refine s_l9 ?_|refine s_g ?_|refine s_q ?_|refine s_e ?_|refine s_j ?_)
    refine ⟨(k + 1, _), ⟨rfl, rfl, rfl, rfl, rfl, trivial⟩, ⟨hk4, by dsimp only; omega, hbZ4, hbG4, ?_⟩, by dsimp only; omega⟩
    refine hg.set (b := true) (by omega) (by omega) fun i' j' hi' hj' => ?_
    rw [take_gi (show k < l.length by omega)]
    by_cases he : i' = (gi l (k : Int)).1.toNat ∧ j' = (gi l (k : Int)).2.toNat
    · rw [if_pos he, decide_eq_true_eq]
      refine List.mem_append_right _ (List.mem_singleton.2 ?_)
      have : (gi l (k : Int)) = ((gi l (k : Int)).1, (gi l (k : Int)).2) := rfl
      rw [this, Prod.mk.injEq]; omega
    · rw [if_neg he, decide_eq_decide]
      constructor
      · intro h
        rcases List.mem_append.1 h with h | h
        · exact h
        · have := List.mem_singleton.1 h
          exact absurd (by rw [← this]; simp) he
      · exact List.mem_append_left _
  simp at hc
  obtain rfl : k = n := by omega
  rw [List.take_of_length_le (by omega)] at hg
  replace hg := hg.congr (g := fun i j => fwB l 0 (i : Int) (j : Int)) (fun i j _ _ => by unfold fwB; rfl)
  repeat (first|refine z_1 ?_|refine z_2 ?_|refine s_o ?_|refine z_3 ?_|refine z_4 ?_|refine z_5 ?_|refine z_6 ?_|refine z_7 ?_|refine z_8 ?_|refine z_9 ?_|refine z_a ?_|refine z_b ?_|refine z_d ?_|refine z_e ?_|refine z_f ?_|refine z_g ?_|refine z_h ?_|refine z_i ?_|refine z_j ?_|refine s_a ?_|refine s_s ?_|refine s_n ?_|refine s_i ?_|refine s_f ?_|refine s_b ?_|refine s_d ?_|refine s_l1 ?_|refine s_l2 ?_|refine s_l3 ?_|refine s_l4 ?_|refine s_l5 ?_|refine s_l6 ?_|refine s_l7 ?_|refine s_l8 ?_|refine s_l9 ?_|refine s_g ?_|refine s_q ?_|refine s_e ?_|refine s_j ?_)
  refine W_loop (S := Nat × List Value) (fun s => [(2, .pointer (some ⟨bZ, 0, none⟩)), (3, .pointer (some ⟨bG, 0, none⟩)), (22, .int .i64 (s.1 : Int))]) (fun s w' => Keep w w' ∧ s.1 ≤ 10 ∧ Blk w' bZ _ _ ∧ Blk w' bG _ s.2 ∧ Grid s.2 (fun i j => fwB l s.1 (i : Int) (j : Int))) (fun s => 10 - s.1) (0, _) ⟨rfl, rfl, rfl, trivial⟩ ⟨hk, Nat.zero_le _, hbZ, hbG, hg⟩ ?_
  clear hbZ hbG hk hg hkn
  rintro ⟨k, cs⟩ wb ⟨hk, hkn, hbZ, hbG, hg⟩
  dsimp only at hkn hbG hg ⊢
  repeat (first|refine z_1 ?_|refine z_2 ?_|refine s_o ?_|refine z_3 ?_|refine z_4 ?_|refine z_5 ?_|refine z_6 ?_|refine z_7 ?_|refine z_8 ?_|refine z_9 ?_|refine z_a ?_|refine z_b ?_|refine z_d ?_|refine z_e ?_|refine z_f ?_|refine z_g ?_|refine z_h ?_|refine z_i ?_|refine z_j ?_|refine s_a ?_|refine s_s ?_|refine s_n ?_|refine s_i ?_|refine s_f ?_|refine s_b ?_|refine s_d ?_|refine s_l1 ?_|refine s_l2 ?_|refine s_l3 ?_|refine s_l4 ?_|refine s_l5 ?_|refine s_l6 ?_|refine s_l7 ?_|refine s_l8 ?_|refine s_l9 ?_|refine s_g ?_|refine s_q ?_|refine s_e ?_|refine s_j ?_)
  refine W_cond rfl (fun hc => ?_) (fun hc => ?_)
  · have hk9 : k < 10 := by simp at hc; omega
    repeat (first|refine z_1 ?_|refine z_2 ?_|refine s_o ?_|refine z_3 ?_|refine z_4 ?_|refine z_5 ?_|refine z_6 ?_|refine z_7 ?_|refine z_8 ?_|refine z_9 ?_|refine z_a ?_|refine z_b ?_|refine z_d ?_|refine z_e ?_|refine z_f ?_|refine z_g ?_|refine z_h ?_|refine z_i ?_|refine z_j ?_|refine s_a ?_|refine s_s ?_|refine s_n ?_|refine s_i ?_|refine s_f ?_|refine s_b ?_|refine s_d ?_|refine s_l1 ?_|refine s_l2 ?_|refine s_l3 ?_|refine s_l4 ?_|refine s_l5 ?_|refine s_l6 ?_|refine s_l7 ?_|refine s_l8 ?_|refine s_l9 ?_|refine s_g ?_|refine s_q ?_|refine s_e ?_|refine s_j ?_)
    refine W_loop (S := Nat × List Value) (fun s => [(2, .pointer (some ⟨bZ, 0, none⟩)), (3, .pointer (some ⟨bG, 0, none⟩)), (22, .int .i64 (k : Int)), (6, .int .i64 (k : Int)), (25, .int .i64 (s.1 : Int))]) (fun s w' => Keep w w' ∧ s.1 ≤ 10 ∧ Blk w' bZ _ _ ∧ Blk w' bG _ s.2 ∧ Grid s.2 (fwG l k s.1 0)) (fun s => 10 - s.1) (0, _) ⟨rfl, rfl, rfl, rfl, rfl, trivial⟩ ⟨hk, Nat.zero_le _, hbZ, hbG, hg.congr (fwG_first l k)⟩ ?_
    clear hbZ hbG hk hg
    rintro ⟨i, cs⟩ wc ⟨hk, hi, hbZ, hbG, hg⟩
    dsimp only at hi hbG hg ⊢
    repeat (first|refine z_1 ?_|refine z_2 ?_|refine s_o ?_|refine z_3 ?_|refine z_4 ?_|refine z_5 ?_|refine z_6 ?_|refine z_7 ?_|refine z_8 ?_|refine z_9 ?_|refine z_a ?_|refine z_b ?_|refine z_d ?_|refine z_e ?_|refine z_f ?_|refine z_g ?_|refine z_h ?_|refine z_i ?_|refine z_j ?_|refine s_a ?_|refine s_s ?_|refine s_n ?_|refine s_i ?_|refine s_f ?_|refine s_b ?_|refine s_d ?_|refine s_l1 ?_|refine s_l2 ?_|refine s_l3 ?_|refine s_l4 ?_|refine s_l5 ?_|refine s_l6 ?_|refine s_l7 ?_|refine s_l8 ?_|refine s_l9 ?_|refine s_g ?_|refine s_q ?_|refine s_e ?_|refine s_j ?_)
    refine W_cond rfl (fun hci => ?_) (fun hci => ?_)
    · have hi9 : i < 10 := by simp at hci; omega
      repeat (first|refine z_1 ?_|refine z_2 ?_|refine s_o ?_|refine z_3 ?_|refine z_4 ?_|refine z_5 ?_|refine z_6 ?_|refine z_7 ?_|refine z_8 ?_|refine z_9 ?_|refine z_a ?_|refine z_b ?_|refine z_d ?_|refine z_e ?_|refine z_f ?_|refine z_g ?_|refine z_h ?_|refine z_i ?_|refine z_j ?_|refine s_a ?_|refine s_s ?_|refine s_n ?_|refine s_i ?_|refine s_f ?_|refine s_b ?_|refine s_d ?_|refine s_l1 ?_|refine s_l2 ?_|refine s_l3 ?_|refine s_l4 ?_|refine s_l5 ?_|refine s_l6 ?_|refine s_l7 ?_|refine s_l8 ?_|refine s_l9 ?_|refine s_g ?_|refine s_q ?_|refine s_e ?_|refine s_j ?_)
      refine W_loop (S := Nat × List Value) (fun s => [(2, .pointer (some ⟨bZ, 0, none⟩)), (3, .pointer (some ⟨bG, 0, none⟩)), (22, .int .i64 (k : Int)), (6, .int .i64 (k : Int)), (25, .int .i64 (i : Int)), (7, .int .i64 (i : Int)), (28, .int .i64 (s.1 : Int))]) (fun s w' => Keep w w' ∧ s.1 ≤ 10 ∧ Blk w' bZ _ _ ∧ Blk w' bG _ s.2 ∧ Grid s.2 (fwG l k i s.1)) (fun s => 10 - s.1) (0, _) ⟨rfl, rfl, rfl, rfl, rfl, rfl, rfl, trivial⟩ ⟨hk, Nat.zero_le _, hbZ, hbG, hg⟩ ?_
      clear hbZ hbG hk hg
      rintro ⟨j, cs⟩ wd ⟨hk, hj, hbZ, hbG, hg⟩
      dsimp only at hj hbG hg ⊢
      repeat (first|refine z_1 ?_|refine z_2 ?_|refine s_o ?_|refine z_3 ?_|refine z_4 ?_|refine z_5 ?_|refine z_6 ?_|refine z_7 ?_|refine z_8 ?_|refine z_9 ?_|refine z_a ?_|refine z_b ?_|refine z_d ?_|refine z_e ?_|refine z_f ?_|refine z_g ?_|refine z_h ?_|refine z_i ?_|refine z_j ?_|refine s_a ?_|refine s_s ?_|refine s_n ?_|refine s_i ?_|refine s_f ?_|refine s_b ?_|refine s_d ?_|refine s_l1 ?_|refine s_l2 ?_|refine s_l3 ?_|refine s_l4 ?_|refine s_l5 ?_|refine s_l6 ?_|refine s_l7 ?_|refine s_l8 ?_|refine s_l9 ?_|refine s_g ?_|refine s_q ?_|refine s_e ?_|refine s_j ?_)
      refine W_cond rfl (fun hcj => ?_) (fun hcj => ?_)
      · have hj9 : j < 10 := by simp at hcj; omega
        have hl100 := hg.len
        repeat (first|refine z_1 ?_|refine z_2 ?_|refine s_o ?_|refine z_3 ?_|refine z_4 ?_|refine z_5 ?_|refine z_6 ?_|refine z_7 ?_|refine z_8 ?_|refine z_9 ?_|refine z_a ?_|refine z_b ?_|refine z_d ?_|refine z_e ?_|refine z_f ?_|refine z_g ?_|refine z_h ?_|refine z_i ?_|refine z_j ?_|refine s_a ?_|refine s_s ?_|refine s_n ?_|refine s_i ?_|refine s_f ?_|refine s_b ?_|refine s_d ?_|refine s_l1 ?_|refine s_l2 ?_|refine s_l3 ?_|refine s_l4 ?_|refine s_l5 ?_|refine s_l6 ?_|refine s_l7 ?_|refine s_l8 ?_|refine s_l9 ?_|refine s_g ?_|refine s_q ?_|refine s_e ?_|refine s_j ?_)
        have e : fwB l (k + 1) (i : Int) (j : Int) = (fwB l k (i : Int) (j : Int) || (fwB l k (i : Int) (k : Int) && fwB l k (k : Int) (j : Int))) := by rw [fwB]
        have kd : Keep wd wd.drew := Keep.drew wd
        have hij := hg.cellN hbG hi9 hj9
        have hik := hg.cellN hbG hi9 hk9
        have hkj := hg.cellN hbG hk9 hj9
        rw [fwG_here] at hij
        rw [fwG_row] at hik
        rw [fwG_col] at hkj
        replace hij := hij.keep kd
        replace hik := hik.keep kd
        replace hkj := hkj.keep kd
        replace hk := hk.keep kd
        replace hbZ := hbZ.keep kd
        replace hbG := hbG.keep kd
        refine W_draw (fun _ => True) (by kernel_rfl) ?_
        have hT : True := trivial
        first|refine d_o 0 ?_|refine d_a 0 ?_|refine d_s 0 ?_|refine d_n 0 ?_|refine d_i 0 ?_|refine d_f 0 ?_|refine d_b 0 ?_|refine d_d 0 ?_|refine d_l1 0 ?_|refine d_l2 0 ?_|refine d_l3 0 ?_|refine d_l4 0 ?_|refine d_l5 0 ?_|refine d_l6 0 ?_|refine d_l7 0 ?_|refine d_l8 0 ?_|refine d_l9 0 ?_|refine d_g 0 ?_|refine d_q 0 ?_|refine d_e 0 ?_|refine d_j 0 ?_
        first|refine d_o 1 ?_|refine d_a 1 ?_|refine d_s 1 ?_|refine d_n 1 ?_|refine d_i 1 ?_|refine d_f 1 ?_|refine d_b 1 ?_|refine d_d 1 ?_|refine d_l1 1 ?_|refine d_l2 1 ?_|refine d_l3 1 ?_|refine d_l4 1 ?_|refine d_l5 1 ?_|refine d_l6 1 ?_|refine d_l7 1 ?_|refine d_l8 1 ?_|refine d_l9 1 ?_|refine d_g 1 ?_|refine d_q 1 ?_|refine d_e 1 ?_|refine d_j 1 ?_
        first|refine d_o 2 ?_|refine d_a 2 ?_|refine d_s 2 ?_|refine d_n 2 ?_|refine d_i 2 ?_|refine d_f 2 ?_|refine d_b 2 ?_|refine d_d 2 ?_|refine d_l1 2 ?_|refine d_l2 2 ?_|refine d_l3 2 ?_|refine d_l4 2 ?_|refine d_l5 2 ?_|refine d_l6 2 ?_|refine d_l7 2 ?_|refine d_l8 2 ?_|refine d_l9 2 ?_|refine d_g 2 ?_|refine d_q 2 ?_|refine d_e 2 ?_|refine d_j 2 ?_
        first|refine d_o 3 ?_|refine d_a 3 ?_|refine d_s 3 ?_|refine d_n 3 ?_|refine d_i 3 ?_|refine d_f 3 ?_|refine d_b 3 ?_|refine d_d 3 ?_|refine d_l1 3 ?_|refine d_l2 3 ?_|refine d_l3 3 ?_|refine d_l4 3 ?_|refine d_l5 3 ?_|refine d_l6 3 ?_|refine d_l7 3 ?_|refine d_l8 3 ?_|refine d_l9 3 ?_|refine d_g 3 ?_|refine d_q 3 ?_|refine d_e 3 ?_|refine d_j 3 ?_
        first|refine d_o 4 ?_|refine d_a 4 ?_|refine d_s 4 ?_|refine d_n 4 ?_|refine d_i 4 ?_|refine d_f 4 ?_|refine d_b 4 ?_|refine d_d 4 ?_|refine d_l1 4 ?_|refine d_l2 4 ?_|refine d_l3 4 ?_|refine d_l4 4 ?_|refine d_l5 4 ?_|refine d_l6 4 ?_|refine d_l7 4 ?_|refine d_l8 4 ?_|refine d_l9 4 ?_|refine d_g 4 ?_|refine d_q 4 ?_|refine d_e 4 ?_|refine d_j 4 ?_
        first|refine d_o 5 ?_|refine d_a 5 ?_|refine d_s 5 ?_|refine d_n 5 ?_|refine d_i 5 ?_|refine d_f 5 ?_|refine d_b 5 ?_|refine d_d 5 ?_|refine d_l1 5 ?_|refine d_l2 5 ?_|refine d_l3 5 ?_|refine d_l4 5 ?_|refine d_l5 5 ?_|refine d_l6 5 ?_|refine d_l7 5 ?_|refine d_l8 5 ?_|refine d_l9 5 ?_|refine d_g 5 ?_|refine d_q 5 ?_|refine d_e 5 ?_|refine d_j 5 ?_
        first|refine d_o 21 ?_|refine d_a 21 ?_|refine d_s 21 ?_|refine d_n 21 ?_|refine d_i 21 ?_|refine d_f 21 ?_|refine d_b 21 ?_|refine d_d 21 ?_|refine d_l1 21 ?_|refine d_l2 21 ?_|refine d_l3 21 ?_|refine d_l4 21 ?_|refine d_l5 21 ?_|refine d_l6 21 ?_|refine d_l7 21 ?_|refine d_l8 21 ?_|refine d_l9 21 ?_|refine d_g 21 ?_|refine d_q 21 ?_|refine d_e 21 ?_|refine d_j 21 ?_
        refine WD_one 6 (by kernel_rfl) rfl ?_
        refine WL_pure rfl rfl (o_load rfl hij) ?_
        refine WL_end ⟨trivial, ?_⟩
        cases h1 : fwB l k (i : Int) (j : Int)
        · rw [h1, Bool.false_or] at e
          first|refine d_o 7 ?_|refine d_a 7 ?_|refine d_s 7 ?_|refine d_n 7 ?_|refine d_i 7 ?_|refine d_f 7 ?_|refine d_b 7 ?_|refine d_d 7 ?_|refine d_l1 7 ?_|refine d_l2 7 ?_|refine d_l3 7 ?_|refine d_l4 7 ?_|refine d_l5 7 ?_|refine d_l6 7 ?_|refine d_l7 7 ?_|refine d_l8 7 ?_|refine d_l9 7 ?_|refine d_g 7 ?_|refine d_q 7 ?_|refine d_e 7 ?_|refine d_j 7 ?_
          first|refine d_o 8 ?_|refine d_a 8 ?_|refine d_s 8 ?_|refine d_n 8 ?_|refine d_i 8 ?_|refine d_f 8 ?_|refine d_b 8 ?_|refine d_d 8 ?_|refine d_l1 8 ?_|refine d_l2 8 ?_|refine d_l3 8 ?_|refine d_l4 8 ?_|refine d_l5 8 ?_|refine d_l6 8 ?_|refine d_l7 8 ?_|refine d_l8 8 ?_|refine d_l9 8 ?_|refine d_g 8 ?_|refine d_q 8 ?_|refine d_e 8 ?_|refine d_j 8 ?_
          first|refine d_o 9 ?_|refine d_a 9 ?_|refine d_s 9 ?_|refine d_n 9 ?_|refine d_i 9 ?_|refine d_f 9 ?_|refine d_b 9 ?_|refine d_d 9 ?_|refine d_l1 9 ?_|refine d_l2 9 ?_|refine d_l3 9 ?_|refine d_l4 9 ?_|refine d_l5 9 ?_|refine d_l6 9 ?_|refine d_l7 9 ?_|refine d_l8 9 ?_|refine d_l9 9 ?_|refine d_g 9 ?_|refine d_q 9 ?_|refine d_e 9 ?_|refine d_j 9 ?_
          first|refine d_o 10 ?_|refine d_a 10 ?_|refine d_s 10 ?_|refine d_n 10 ?_|refine d_i 10 ?_|refine d_f 10 ?_|refine d_b 10 ?_|refine d_d 10 ?_|refine d_l1 10 ?_|refine d_l2 10 ?_|refine d_l3 10 ?_|refine d_l4 10 ?_|refine d_l5 10 ?_|refine d_l6 10 ?_|refine d_l7 10 ?_|refine d_l8 10 ?_|refine d_l9 10 ?_|refine d_g 10 ?_|refine d_q 10 ?_|refine d_e 10 ?_|refine d_j 10 ?_
          first|refine d_o 11 ?_|refine d_a 11 ?_|refine d_s 11 ?_|refine d_n 11 ?_|refine d_i 11 ?_|refine d_f 11 ?_|refine d_b 11 ?_|refine d_d 11 ?_|refine d_l1 11 ?_|refine d_l2 11 ?_|refine d_l3 11 ?_|refine d_l4 11 ?_|refine d_l5 11 ?_|refine d_l6 11 ?_|refine d_l7 11 ?_|refine d_l8 11 ?_|refine d_l9 11 ?_|refine d_g 11 ?_|refine d_q 11 ?_|refine d_e 11 ?_|refine d_j 11 ?_
          refine WD_one 12 (by kernel_rfl) rfl ?_
          refine WL_pure rfl rfl (o_load rfl hik) ?_
          refine WL_end ⟨trivial, ?_⟩
          cases h2 : fwB l k (i : Int) (k : Int)
          · rw [h2, Bool.false_and] at e
            first|refine d_o 13 ?_|refine d_a 13 ?_|refine d_s 13 ?_|refine d_n 13 ?_|refine d_i 13 ?_|refine d_f 13 ?_|refine d_b 13 ?_|refine d_d 13 ?_|refine d_l1 13 ?_|refine d_l2 13 ?_|refine d_l3 13 ?_|refine d_l4 13 ?_|refine d_l5 13 ?_|refine d_l6 13 ?_|refine d_l7 13 ?_|refine d_l8 13 ?_|refine d_l9 13 ?_|refine d_g 13 ?_|refine d_q 13 ?_|refine d_e 13 ?_|refine d_j 13 ?_
            refine WD_pass 14 rfl (by kernel_rfl) (by kernel_rfl) (by kernel_rfl) (by repeat (first | exact np_ret | refine np_then ?_ | refine np_in ?_)) rfl rfl (by assumption) ?_
            refine WD_pass 15 rfl (by kernel_rfl) (by kernel_rfl) (by kernel_rfl) (by repeat (first | exact np_ret | refine np_then ?_ | refine np_in ?_)) rfl rfl (by assumption) ?_
            refine WD_pass 16 rfl (by kernel_rfl) (by kernel_rfl) (by kernel_rfl) (by repeat (first | exact np_ret | refine np_then ?_ | refine np_in ?_)) rfl rfl (by assumption) ?_
            refine WD_pass 17 rfl (by kernel_rfl) (by kernel_rfl) (by kernel_rfl) (by repeat (first | exact np_ret | refine np_then ?_ | refine np_in ?_)) rfl rfl (by assumption) ?_
            refine WD_pass 18 rfl (by kernel_rfl) (by kernel_rfl) (by kernel_rfl) (by repeat (first | exact np_ret | refine np_then ?_ | refine np_in ?_)) rfl rfl (by assumption) ?_
            first|refine d_o 19 ?_|refine d_a 19 ?_|refine d_s 19 ?_|refine d_n 19 ?_|refine d_i 19 ?_|refine d_f 19 ?_|refine d_b 19 ?_|refine d_d 19 ?_|refine d_l1 19 ?_|refine d_l2 19 ?_|refine d_l3 19 ?_|refine d_l4 19 ?_|refine d_l5 19 ?_|refine d_l6 19 ?_|refine d_l7 19 ?_|refine d_l8 19 ?_|refine d_l9 19 ?_|refine d_g 19 ?_|refine d_q 19 ?_|refine d_e 19 ?_|refine d_j 19 ?_
            first|refine d_o 20 ?_|refine d_a 20 ?_|refine d_s 20 ?_|refine d_n 20 ?_|refine d_i 20 ?_|refine d_f 20 ?_|refine d_b 20 ?_|refine d_d 20 ?_|refine d_l1 20 ?_|refine d_l2 20 ?_|refine d_l3 20 ?_|refine d_l4 20 ?_|refine d_l5 20 ?_|refine d_l6 20 ?_|refine d_l7 20 ?_|refine d_l8 20 ?_|refine d_l9 20 ?_|refine d_g 20 ?_|refine d_q 20 ?_|refine d_e 20 ?_|refine d_j 20 ?_
            first|refine d_o 22 ?_|refine d_a 22 ?_|refine d_s 22 ?_|refine d_n 22 ?_|refine d_i 22 ?_|refine d_f 22 ?_|refine d_b 22 ?_|refine d_d 22 ?_|refine d_l1 22 ?_|refine d_l2 22 ?_|refine d_l3 22 ?_|refine d_l4 22 ?_|refine d_l5 22 ?_|refine d_l6 22 ?_|refine d_l7 22 ?_|refine d_l8 22 ?_|refine d_l9 22 ?_|refine d_g 22 ?_|refine d_q 22 ?_|refine d_e 22 ?_|refine d_j 22 ?_
            refine WD_one 23 (by kernel_rfl) rfl ?_
            refine o_store1 rfl rfl ea2_int rfl rfl hbG (by simp only [Int.toNat_natCast]; omega) ?_
            intro w4 hu4
            refine WL_end ⟨trivial, ?_⟩
            refine WD_done (by kernel_rfl) ?_
            repeat (first|refine z_1 ?_|refine z_2 ?_|refine s_o ?_|refine z_3 ?_|refine z_4 ?_|refine z_5 ?_|refine z_6 ?_|refine z_7 ?_|refine z_8 ?_|refine z_9 ?_|refine z_a ?_|refine z_b ?_|refine z_d ?_|refine z_e ?_|refine z_f ?_|refine z_g ?_|refine z_h ?_|refine z_i ?_|refine z_j ?_|refine s_a ?_|refine s_s ?_|refine s_n ?_|refine s_i ?_|refine s_f ?_|refine s_b ?_|refine s_d ?_|refine s_l1 ?_|refine s_l2 ?_|refine s_l3 ?_|refine s_l4 ?_|refine s_l5 ?_|refine s_l6 ?_|refine s_l7 ?_|refine s_l8 ?_|refine s_l9 ?_|refine s_g ?_|refine s_q ?_|refine s_e ?_|refine s_j ?_)
            refine ⟨(j + 1, _), ⟨rfl, rfl, rfl, rfl, rfl, rfl, rfl, trivial⟩, ⟨hk.upd hu4 (by omega), by dsimp only; omega, hbZ.upd hu4 (by omega), hu4.blk, ?_⟩, by dsimp only; omega⟩
            simp only [Int.toNat_natCast]
            exact hg.set hi9 hj9 (fwG_step l k i j e)
          · rw [h2, Bool.true_and] at e
            first|refine d_o 13 ?_|refine d_a 13 ?_|refine d_s 13 ?_|refine d_n 13 ?_|refine d_i 13 ?_|refine d_f 13 ?_|refine d_b 13 ?_|refine d_d 13 ?_|refine d_l1 13 ?_|refine d_l2 13 ?_|refine d_l3 13 ?_|refine d_l4 13 ?_|refine d_l5 13 ?_|refine d_l6 13 ?_|refine d_l7 13 ?_|refine d_l8 13 ?_|refine d_l9 13 ?_|refine d_g 13 ?_|refine d_q 13 ?_|refine d_e 13 ?_|refine d_j 13 ?_
            first|refine d_o 14 ?_|refine d_a 14 ?_|refine d_s 14 ?_|refine d_n 14 ?_|refine d_i 14 ?_|refine d_f 14 ?_|refine d_b 14 ?_|refine d_d 14 ?_|refine d_l1 14 ?_|refine d_l2 14 ?_|refine d_l3 14 ?_|refine d_l4 14 ?_|refine d_l5 14 ?_|refine d_l6 14 ?_|refine d_l7 14 ?_|refine d_l8 14 ?_|refine d_l9 14 ?_|refine d_g 14 ?_|refine d_q 14 ?_|refine d_e 14 ?_|refine d_j 14 ?_
            first|refine d_o 15 ?_|refine d_a 15 ?_|refine d_s 15 ?_|refine d_n 15 ?_|refine d_i 15 ?_|refine d_f 15 ?_|refine d_b 15 ?_|refine d_d 15 ?_|refine d_l1 15 ?_|refine d_l2 15 ?_|refine d_l3 15 ?_|refine d_l4 15 ?_|refine d_l5 15 ?_|refine d_l6 15 ?_|refine d_l7 15 ?_|refine d_l8 15 ?_|refine d_l9 15 ?_|refine d_g 15 ?_|refine d_q 15 ?_|refine d_e 15 ?_|refine d_j 15 ?_
            first|refine d_o 16 ?_|refine d_a 16 ?_|refine d_s 16 ?_|refine d_n 16 ?_|refine d_i 16 ?_|refine d_f 16 ?_|refine d_b 16 ?_|refine d_d 16 ?_|refine d_l1 16 ?_|refine d_l2 16 ?_|refine d_l3 16 ?_|refine d_l4 16 ?_|refine d_l5 16 ?_|refine d_l6 16 ?_|refine d_l7 16 ?_|refine d_l8 16 ?_|refine d_l9 16 ?_|refine d_g 16 ?_|refine d_q 16 ?_|refine d_e 16 ?_|refine d_j 16 ?_
            first|refine d_o 17 ?_|refine d_a 17 ?_|refine d_s 17 ?_|refine d_n 17 ?_|refine d_i 17 ?_|refine d_f 17 ?_|refine d_b 17 ?_|refine d_d 17 ?_|refine d_l1 17 ?_|refine d_l2 17 ?_|refine d_l3 17 ?_|refine d_l4 17 ?_|refine d_l5 17 ?_|refine d_l6 17 ?_|refine d_l7 17 ?_|refine d_l8 17 ?_|refine d_l9 17 ?_|refine d_g 17 ?_|refine d_q 17 ?_|refine d_e 17 ?_|refine d_j 17 ?_
            refine WD_one 18 (by kernel_rfl) rfl ?_
            refine WL_pure rfl rfl (o_load rfl hkj) ?_
            refine WL_end ⟨trivial, ?_⟩
            first|refine d_o 19 ?_|refine d_a 19 ?_|refine d_s 19 ?_|refine d_n 19 ?_|refine d_i 19 ?_|refine d_f 19 ?_|refine d_b 19 ?_|refine d_d 19 ?_|refine d_l1 19 ?_|refine d_l2 19 ?_|refine d_l3 19 ?_|refine d_l4 19 ?_|refine d_l5 19 ?_|refine d_l6 19 ?_|refine d_l7 19 ?_|refine d_l8 19 ?_|refine d_l9 19 ?_|refine d_g 19 ?_|refine d_q 19 ?_|refine d_e 19 ?_|refine d_j 19 ?_
            first|refine d_o 20 ?_|refine d_a 20 ?_|refine d_s 20 ?_|refine d_n 20 ?_|refine d_i 20 ?_|refine d_f 20 ?_|refine d_b 20 ?_|refine d_d 20 ?_|refine d_l1 20 ?_|refine d_l2 20 ?_|refine d_l3 20 ?_|refine d_l4 20 ?_|refine d_l5 20 ?_|refine d_l6 20 ?_|refine d_l7 20 ?_|refine d_l8 20 ?_|refine d_l9 20 ?_|refine d_g 20 ?_|refine d_q 20 ?_|refine d_e 20 ?_|refine d_j 20 ?_
            first|refine d_o 22 ?_|refine d_a 22 ?_|refine d_s 22 ?_|refine d_n 22 ?_|refine d_i 22 ?_|refine d_f 22 ?_|refine d_b 22 ?_|refine d_d 22 ?_|refine d_l1 22 ?_|refine d_l2 22 ?_|refine d_l3 22 ?_|refine d_l4 22 ?_|refine d_l5 22 ?_|refine d_l6 22 ?_|refine d_l7 22 ?_|refine d_l8 22 ?_|refine d_l9 22 ?_|refine d_g 22 ?_|refine d_q 22 ?_|refine d_e 22 ?_|refine d_j 22 ?_
            refine WD_one 23 (by kernel_rfl) rfl ?_
            refine o_store1 rfl rfl ea2_int rfl rfl hbG (by simp only [Int.toNat_natCast]; omega) ?_
            intro w4 hu4
            refine WL_end ⟨trivial, ?_⟩
            refine WD_done (by kernel_rfl) ?_
            repeat (first|refine z_1 ?_|refine z_2 ?_|refine s_o ?_|refine z_3 ?_|refine z_4 ?_|refine z_5 ?_|refine z_6 ?_|refine z_7 ?_|refine z_8 ?_|refine z_9 ?_|refine z_a ?_|refine z_b ?_|refine z_d ?_|refine z_e ?_|refine z_f ?_|refine z_g ?_|refine z_h ?_|refine z_i ?_|refine z_j ?_|refine s_a ?_|refine s_s ?_|refine s_n ?_|refine s_i ?_|refine s_f ?_|refine s_b ?_|refine s_d ?_|refine s_l1 ?_|refine s_l2 ?_|refine s_l3 ?_|refine s_l4 ?_|refine s_l5 ?_|refine s_l6 ?_|refine s_l7 ?_|refine s_l8 ?_|refine s_l9 ?_|refine s_g ?_|refine s_q ?_|refine s_e ?_|refine s_j ?_)
            refine ⟨(j + 1, _), ⟨rfl, rfl, rfl, rfl, rfl, rfl, rfl, trivial⟩, ⟨hk.upd hu4 (by omega), by dsimp only; omega, hbZ.upd hu4 (by omega), hu4.blk, ?_⟩, by dsimp only; omega⟩
            simp only [Int.toNat_natCast]
            exact hg.set hi9 hj9 (fwG_step l k i j e)
        · rw [h1, Bool.true_or] at e
          first|refine d_o 7 ?_|refine d_a 7 ?_|refine d_s 7 ?_|refine d_n 7 ?_|refine d_i 7 ?_|refine d_f 7 ?_|refine d_b 7 ?_|refine d_d 7 ?_|refine d_l1 7 ?_|refine d_l2 7 ?_|refine d_l3 7 ?_|refine d_l4 7 ?_|refine d_l5 7 ?_|refine d_l6 7 ?_|refine d_l7 7 ?_|refine d_l8 7 ?_|refine d_l9 7 ?_|refine d_g 7 ?_|refine d_q 7 ?_|refine d_e 7 ?_|refine d_j 7 ?_
          refine WD_pass 8 rfl (by kernel_rfl) (by kernel_rfl) (by kernel_rfl) (by repeat (first | exact np_ret | refine np_then ?_ | refine np_in ?_)) rfl rfl (by assumption) ?_
          refine WD_pass 9 rfl (by kernel_rfl) (by kernel_rfl) (by kernel_rfl) (by repeat (first | exact np_ret | refine np_then ?_ | refine np_in ?_)) rfl rfl (by assumption) ?_
          refine WD_pass 10 rfl (by kernel_rfl) (by kernel_rfl) (by kernel_rfl) (by repeat (first | exact np_ret | refine np_then ?_ | refine np_in ?_)) rfl rfl (by assumption) ?_
          refine WD_pass 11 rfl (by kernel_rfl) (by kernel_rfl) (by kernel_rfl) (by repeat (first | exact np_ret | refine np_then ?_ | refine np_in ?_)) rfl rfl (by assumption) ?_
          refine WD_pass 12 rfl (by kernel_rfl) (by kernel_rfl) (by kernel_rfl) (by repeat (first | exact np_ret | refine np_then ?_ | refine np_in ?_)) rfl rfl (by assumption) ?_
          refine WD_pass 13 rfl (by kernel_rfl) (by kernel_rfl) (by kernel_rfl) (by repeat (first | exact np_ret | refine np_then ?_ | refine np_in ?_)) rfl rfl (by assumption) ?_
          refine WD_pass 14 rfl (by kernel_rfl) (by kernel_rfl) (by kernel_rfl) (by repeat (first | exact np_ret | refine np_then ?_ | refine np_in ?_)) rfl rfl (by assumption) ?_
          refine WD_pass 15 rfl (by kernel_rfl) (by kernel_rfl) (by kernel_rfl) (by repeat (first | exact np_ret | refine np_then ?_ | refine np_in ?_)) rfl rfl (by assumption) ?_
          refine WD_pass 16 rfl (by kernel_rfl) (by kernel_rfl) (by kernel_rfl) (by repeat (first | exact np_ret | refine np_then ?_ | refine np_in ?_)) rfl rfl (by assumption) ?_
          refine WD_pass 17 rfl (by kernel_rfl) (by kernel_rfl) (by kernel_rfl) (by repeat (first | exact np_ret | refine np_then ?_ | refine np_in ?_)) rfl rfl (by assumption) ?_
          refine WD_pass 18 rfl (by kernel_rfl) (by kernel_rfl) (by kernel_rfl) (by repeat (first | exact np_ret | refine np_then ?_ | refine np_in ?_)) rfl rfl (by assumption) ?_
          refine WD_pass 19 rfl (by kernel_rfl) (by kernel_rfl) (by kernel_rfl) (by repeat (first | exact np_ret | refine np_then ?_ | refine np_in ?_)) rfl rfl (by assumption) ?_
          first|refine d_o 20 ?_|refine d_a 20 ?_|refine d_s 20 ?_|refine d_n 20 ?_|refine d_i 20 ?_|refine d_f 20 ?_|refine d_b 20 ?_|refine d_d 20 ?_|refine d_l1 20 ?_|refine d_l2 20 ?_|refine d_l3 20 ?_|refine d_l4 20 ?_|refine d_l5 20 ?_|refine d_l6 20 ?_|refine d_l7 20 ?_|refine d_l8 20 ?_|refine d_l9 20 ?_|refine d_g 20 ?_|refine d_q 20 ?_|refine d_e 20 ?_|refine d_j 20 ?_
          first|refine d_o 22 ?_|refine d_a 22 ?_|refine d_s 22 ?_|refine d_n 22 ?_|refine d_i 22 ?_|refine d_f 22 ?_|refine d_b 22 ?_|refine d_d 22 ?_|refine d_l1 22 ?_|refine d_l2 22 ?_|refine d_l3 22 ?_|refine d_l4 22 ?_|refine d_l5 22 ?_|refine d_l6 22 ?_|refine d_l7 22 ?_|refine d_l8 22 ?_|refine d_l9 22 ?_|refine d_g 22 ?_|refine d_q 22 ?_|refine d_e 22 ?_|refine d_j 22 ?_
          refine WD_one 23 (by kernel_rfl) rfl ?_
          refine o_store1 rfl rfl ea2_int rfl rfl hbG (by simp only [Int.toNat_natCast]; omega) ?_
          intro w4 hu4
          refine WL_end ⟨trivial, ?_⟩
          refine WD_done (by kernel_rfl) ?_
          repeat (first|refine z_1 ?_|refine z_2 ?_|refine s_o ?_|refine z_3 ?_|refine z_4 ?_|refine z_5 ?_|refine z_6 ?_|refine z_7 ?_|refine z_8 ?_|refine z_9 ?_|refine z_a ?_|refine z_b ?_|refine z_d ?_|refine z_e ?_|refine z_f ?_|refine z_g ?_|refine z_h ?_|refine z_i ?_|refine z_j ?_|refine s_a ?_|refine s_s ?_|refine s_n ?_|refine s_i ?_|refine s_f ?_|refine s_b ?_|refine s_d ?_|refine s_l1 ?_|refine s_l2 ?_|refine s_l3 ?_|refine s_l4 ?_|refine s_l5 ?_|refine s_l6 ?_|refine s_l7 ?_|refine s_l8 ?_|refine s_l9 ?_|refine s_g ?_|refine s_q ?_|refine s_e ?_|refine s_j ?_)
          refine ⟨(j + 1, _), ⟨rfl, rfl, rfl, rfl, rfl, rfl, rfl, trivial⟩, ⟨hk.upd hu4 (by omega), by dsimp only; omega, hbZ.upd hu4 (by omega), hu4.blk, ?_⟩, by dsimp only; omega⟩
          simp only [Int.toNat_natCast]
          exact hg.set hi9 hj9 (fwG_step l k i j e)
      · simp at hcj
        obtain rfl : j = 10 := by omega
        repeat (first|refine z_1 ?_|refine z_2 ?_|refine s_o ?_|refine z_3 ?_|refine z_4 ?_|refine z_5 ?_|refine z_6 ?_|refine z_7 ?_|refine z_8 ?_|refine z_9 ?_|refine z_a ?_|refine z_b ?_|refine z_d ?_|refine z_e ?_|refine z_f ?_|refine z_g ?_|refine z_h ?_|refine z_i ?_|refine z_j ?_|refine s_a ?_|refine s_s ?_|refine s_n ?_|refine s_i ?_|refine s_f ?_|refine s_b ?_|refine s_d ?_|refine s_l1 ?_|refine s_l2 ?_|refine s_l3 ?_|refine s_l4 ?_|refine s_l5 ?_|refine s_l6 ?_|refine s_l7 ?_|refine s_l8 ?_|refine s_l9 ?_|refine s_g ?_|refine s_q ?_|refine s_e ?_|refine s_j ?_)
        exact ⟨(i + 1, _), ⟨rfl, rfl, rfl, rfl, rfl, trivial⟩, ⟨hk, by dsimp only; omega, hbZ, hbG, hg.congr (fwG_next l k i)⟩, by dsimp only; omega⟩
    · simp at hci
      obtain rfl : i = 10 := by omega
      repeat (first|refine z_1 ?_|refine z_2 ?_|refine s_o ?_|refine z_3 ?_|refine z_4 ?_|refine z_5 ?_|refine z_6 ?_|refine z_7 ?_|refine z_8 ?_|refine z_9 ?_|refine z_a ?_|refine z_b ?_|refine z_d ?_|refine z_e ?_|refine z_f ?_|refine z_g ?_|refine z_h ?_|refine z_i ?_|refine z_j ?_|refine s_a ?_|refine s_s ?_|refine s_n ?_|refine s_i ?_|refine s_f ?_|refine s_b ?_|refine s_d ?_|refine s_l1 ?_|refine s_l2 ?_|refine s_l3 ?_|refine s_l4 ?_|refine s_l5 ?_|refine s_l6 ?_|refine s_l7 ?_|refine s_l8 ?_|refine s_l9 ?_|refine s_g ?_|refine s_q ?_|refine s_e ?_|refine s_j ?_)
      exact ⟨(k + 1, _), ⟨rfl, rfl, rfl, trivial⟩, ⟨hk, by dsimp only; omega, hbZ, hbG, hg.congr (fwG_last l k)⟩, by dsimp only; omega⟩
  · simp at hc
    obtain rfl : k = 10 := by omega
    have hl100 := hg.len
    repeat (first|refine z_1 ?_|refine z_2 ?_|refine s_o ?_|refine z_3 ?_|refine z_4 ?_|refine z_5 ?_|refine z_6 ?_|refine z_7 ?_|refine z_8 ?_|refine z_9 ?_|refine z_a ?_|refine z_b ?_|refine z_d ?_|refine z_e ?_|refine z_f ?_|refine z_g ?_|refine z_h ?_|refine z_i ?_|refine z_j ?_|refine s_a ?_|refine s_s ?_|refine s_n ?_|refine s_i ?_|refine s_f ?_|refine s_b ?_|refine s_d ?_|refine s_l1 ?_|refine s_l2 ?_|refine s_l3 ?_|refine s_l4 ?_|refine s_l5 ?_|refine s_l6 ?_|refine s_l7 ?_|refine s_l8 ?_|refine s_l9 ?_|refine s_g ?_|refine s_q ?_|refine s_e ?_|refine s_j ?_)
    refine WL_pure rfl rfl (o_loadS rfl hbG.cells hg.len) ?_
    repeat (first|refine z_1 ?_|refine z_2 ?_|refine s_o ?_|refine z_3 ?_|refine z_4 ?_|refine z_5 ?_|refine z_6 ?_|refine z_7 ?_|refine z_8 ?_|refine z_9 ?_|refine z_a ?_|refine z_b ?_|refine z_d ?_|refine z_e ?_|refine z_f ?_|refine z_g ?_|refine z_h ?_|refine z_i ?_|refine z_j ?_|refine s_a ?_|refine s_s ?_|refine s_n ?_|refine s_i ?_|refine s_f ?_|refine s_b ?_|refine s_d ?_|refine s_l1 ?_|refine s_l2 ?_|refine s_l3 ?_|refine s_l4 ?_|refine s_l5 ?_|refine s_l6 ?_|refine s_l7 ?_|refine s_l8 ?_|refine s_l9 ?_|refine s_g ?_|refine s_q ?_|refine s_e ?_|refine s_j ?_)
    refine o_storeS (b := bZ) (off := 0) rfl rfl rfl rfl hg.one hg.len hbZ (by simp) ?_
    intro w5 hu5
    have hb5 := hu5.blk
    have e5 : ∀ zs : List Value, zs.length = 100 → zs.take 0 ++ cs ++ zs.drop (0 + 100) = cs := fun zs h => by rw [List.drop_of_length_le (by omega)]; simp
    rw [e5 _ (by simp)] at hb5
    repeat (first|refine z_1 ?_|refine z_2 ?_|refine s_o ?_|refine z_3 ?_|refine z_4 ?_|refine z_5 ?_|refine z_6 ?_|refine z_7 ?_|refine z_8 ?_|refine z_9 ?_|refine z_a ?_|refine z_b ?_|refine z_d ?_|refine z_e ?_|refine z_f ?_|refine z_g ?_|refine z_h ?_|refine z_i ?_|refine z_j ?_|refine s_a ?_|refine s_s ?_|refine s_n ?_|refine s_i ?_|refine s_f ?_|refine s_b ?_|refine s_d ?_|refine s_l1 ?_|refine s_l2 ?_|refine s_l3 ?_|refine s_l4 ?_|refine s_l5 ?_|refine s_l6 ?_|refine s_l7 ?_|refine s_l8 ?_|refine s_l9 ?_|refine s_g ?_|refine s_q ?_|refine s_e ?_|refine s_j ?_)
    exact retc rfl rfl hb5.cells hg.len ⟨cs, rfl, hg.congr fun i j _ _ => rfl, hk.upd hu5 (by omega)⟩

set_option maxHeartbeats 1000000 in
theorem impl_ArePairs_ok {w : World} {v : Value} {l : List (Int × Int)} {fp : List Nat} (hx : Sl pairR w v l fp) :
    Run Try.prog 187 [v] w (fun r w' => r = .bool (arePairs l) ∧ Keep w w') := by
  have hn := hx.le
  obtain ⟨A, n, c, rfl, hnx⟩ := hx.split
  refine Run_intro Try.func187 (by unfold CallOk; kernel_rfl) rfl Try.ntmps187 (Nat.le_of_ble_eq_true rfl) ?_
  simp only [penv, Nat.reduceAdd, Nat.zero_add]
  repeat (first|refine z_1 ?_|refine z_2 ?_|refine s_o ?_|refine z_3 ?_|refine z_4 ?_|refine z_5 ?_|refine z_6 ?_|refine z_7 ?_|refine z_8 ?_|refine z_9 ?_|refine z_a ?_|refine z_b ?_|refine z_d ?_|refine z_e ?_|refine z_f ?_|refine z_g ?_|refine z_h ?_|refine z_i ?_|refine z_j ?_|refine s_a ?_|refine s_s ?_|refine s_n ?_|refine s_i ?_|refine s_f ?_|refine s_b ?_|refine s_d ?_|refine s_l1 ?_|refine s_l2 ?_|refine s_l3 ?_|refine s_l4 ?_|refine s_l5 ?_|refine s_l6 ?_|refine s_l7 ?_|refine s_l8 ?_|refine s_l9 ?_|refine s_g ?_|refine s_q ?_|refine s_e ?_|refine s_j ?_)
  refine W_loop (S := Nat) (fun k => [(0, .slice A n c), (7, .slice A n c), (8, .int .i64 n), (9, .int .i64 (k : Int))]) (fun k w' => Keep w w' ∧ k ≤ n ∧ ∀ i, i < k → (fun i : Nat => inR (gi l (i : Int)).1 0 9 && inR (gi l (i : Int)).2 0 9) i = true) (fun k => n - k) 0 ⟨rfl, rfl, rfl, rfl, trivial⟩ ⟨Keep.refl _, Nat.zero_le _, fun i hi => absurd hi (by omega)⟩ ?_
  rintro k w1 ⟨hk1, hk, hall⟩
  have hx1 := hx.keep hk1
  repeat (first|refine z_1 ?_|refine z_2 ?_|refine s_o ?_|refine z_3 ?_|refine z_4 ?_|refine z_5 ?_|refine z_6 ?_|refine z_7 ?_|refine z_8 ?_|refine z_9 ?_|refine z_a ?_|refine z_b ?_|refine z_d ?_|refine z_e ?_|refine z_f ?_|refine z_g ?_|refine z_h ?_|refine z_i ?_|refine z_j ?_|refine s_a ?_|refine s_s ?_|refine s_n ?_|refine s_i ?_|refine s_f ?_|refine s_b ?_|refine s_d ?_|refine s_l1 ?_|refine s_l2 ?_|refine s_l3 ?_|refine s_l4 ?_|refine s_l5 ?_|refine s_l6 ?_|refine s_l7 ?_|refine s_l8 ?_|refine s_l9 ?_|refine s_g ?_|refine s_q ?_|refine s_e ?_|refine s_j ?_)
  refine W_cond rfl (fun hc => ?_) (fun hc => ?_)
  · have hkn : k < n := by simp at hc; omega
    obtain ⟨hA, hcell⟩ := pair_get hx1 (i := (k : Int)) (by omega) (by omega)
    repeat (first|refine z_1 ?_|refine z_2 ?_|refine s_o ?_|refine z_3 ?_|refine z_4 ?_|refine z_5 ?_|refine z_6 ?_|refine z_7 ?_|refine z_8 ?_|refine z_9 ?_|refine z_a ?_|refine z_b ?_|refine z_d ?_|refine z_e ?_|refine z_f ?_|refine z_g ?_|refine z_h ?_|refine z_i ?_|refine z_j ?_|refine s_a ?_|refine s_s ?_|refine s_n ?_|refine s_i ?_|refine s_f ?_|refine s_b ?_|refine s_d ?_|refine s_l1 ?_|refine s_l2 ?_|refine s_l3 ?_|refine s_l4 ?_|refine s_l5 ?_|refine s_l6 ?_|refine s_l7 ?_|refine s_l8 ?_|refine s_l9 ?_|refine s_g ?_|refine s_q ?_|refine s_e ?_|refine s_j ?_)
    refine o_alloc rfl rfl ?_
    intro bR wR halR
    have hbR0 := halR.blk
    repeat (first|refine z_1 ?_|refine z_2 ?_|refine s_o ?_|refine z_3 ?_|refine z_4 ?_|refine z_5 ?_|refine z_6 ?_|refine z_7 ?_|refine z_8 ?_|refine z_9 ?_|refine z_a ?_|refine z_b ?_|refine z_d ?_|refine z_e ?_|refine z_f ?_|refine z_g ?_|refine z_h ?_|refine z_i ?_|refine z_j ?_|refine s_a ?_|refine s_s ?_|refine s_n ?_|refine s_i ?_|refine s_f ?_|refine s_b ?_|refine s_d ?_|refine s_l1 ?_|refine s_l2 ?_|refine s_l3 ?_|refine s_l4 ?_|refine s_l5 ?_|refine s_l6 ?_|refine s_l7 ?_|refine s_l8 ?_|refine s_l9 ?_|refine s_g ?_|refine s_q ?_|refine s_e ?_|refine s_j ?_)
    refine o_storeS (b := bR) (off := 0) rfl rfl rfl rfl (by repeat (first | exact ones_nil | refine ones_cons (by first | rfl | assumption) ?_)) rfl hbR0 (by simp) ?_
    intro wS huS
    have hbR : Blk wS bR _ [.int .i64 (gi l (k : Int)).1, .int .i64 (gi l (k : Int)).2] := huS.blk
    have hkS := halR.kp.upd huS (Nat.le_of_eq halR.b_eq.symm)
    have hRe := halR.b_eq
    clear hbR0 huS halR
    replace hk1 := hk1.keep hkS
    clear hcell
    repeat (first|refine z_1 ?_|refine z_2 ?_|refine s_o ?_|refine z_3 ?_|refine z_4 ?_|refine z_5 ?_|refine z_6 ?_|refine z_7 ?_|refine z_8 ?_|refine z_9 ?_|refine z_a ?_|refine z_b ?_|refine z_d ?_|refine z_e ?_|refine z_f ?_|refine z_g ?_|refine z_h ?_|refine z_i ?_|refine z_j ?_|refine s_a ?_|refine s_s ?_|refine s_n ?_|refine s_i ?_|refine s_f ?_|refine s_b ?_|refine s_d ?_|refine s_l1 ?_|refine s_l2 ?_|refine s_l3 ?_|refine s_l4 ?_|refine s_l5 ?_|refine s_l6 ?_|refine s_l7 ?_|refine s_l8 ?_|refine s_l9 ?_|refine s_g ?_|refine s_q ?_|refine s_e ?_|refine s_j ?_)
    refine o_call rfl rfl rfl (within_ok _ _ _ _) ?_
    rintro _ _ ⟨rfl, rfl⟩
    repeat (first|refine z_1 ?_|refine z_2 ?_|refine s_o ?_|refine z_3 ?_|refine z_4 ?_|refine z_5 ?_|refine z_6 ?_|refine z_7 ?_|refine z_8 ?_|refine z_9 ?_|refine z_a ?_|refine z_b ?_|refine z_d ?_|refine z_e ?_|refine z_f ?_|refine z_g ?_|refine z_h ?_|refine z_i ?_|refine z_j ?_|refine s_a ?_|refine s_s ?_|refine s_n ?_|refine s_i ?_|refine s_f ?_|refine s_b ?_|refine s_d ?_|refine s_l1 ?_|refine s_l2 ?_|refine s_l3 ?_|refine s_l4 ?_|refine s_l5 ?_|refine s_l6 ?_|refine s_l7 ?_|refine s_l8 ?_|refine s_l9 ?_|refine s_g ?_|refine s_q ?_|refine s_e ?_|refine s_j ?_)
    refine WL_part rfl rfl (fun h => ?_) (fun h => ?_)
    · simp at h
      repeat (first|refine z_1 ?_|refine z_2 ?_|refine s_o ?_|refine z_3 ?_|refine z_4 ?_|refine z_5 ?_|refine z_6 ?_|refine z_7 ?_|refine z_8 ?_|refine z_9 ?_|refine z_a ?_|refine z_b ?_|refine z_d ?_|refine z_e ?_|refine z_f ?_|refine z_g ?_|refine z_h ?_|refine z_i ?_|refine z_j ?_|refine s_a ?_|refine s_s ?_|refine s_n ?_|refine s_i ?_|refine s_f ?_|refine s_b ?_|refine s_d ?_|refine s_l1 ?_|refine s_l2 ?_|refine s_l3 ?_|refine s_l4 ?_|refine s_l5 ?_|refine s_l6 ?_|refine s_l7 ?_|refine s_l8 ?_|refine s_l9 ?_|refine s_g ?_|refine s_q ?_|refine s_e ?_|refine s_j ?_)
      exact ret1 rfl rfl ⟨by rw [arePairs, prOk, allB_false (k := k) (by omega) (by simp [h])]; rfl, hk1⟩
    · simp at h
      repeat (first|refine z_1 ?_|refine z_2 ?_|refine s_o ?_|refine z_3 ?_|refine z_4 ?_|refine z_5 ?_|refine z_6 ?_|refine z_7 ?_|refine z_8 ?_|refine z_9 ?_|refine z_a ?_|refine z_b ?_|refine z_d ?_|refine z_e ?_|refine z_f ?_|refine z_g ?_|refine z_h ?_|refine z_i ?_|refine z_j ?_|refine s_a ?_|refine s_s ?_|refine s_n ?_|refine s_i ?_|refine s_f ?_|refine s_b ?_|refine s_d ?_|refine s_l1 ?_|refine s_l2 ?_|refine s_l3 ?_|refine s_l4 ?_|refine s_l5 ?_|refine s_l6 ?_|refine s_l7 ?_|refine s_l8 ?_|refine s_l9 ?_|refine s_g ?_|refine s_q ?_|refine s_e ?_|refine s_j ?_)
      refine o_call rfl rfl rfl (within_ok _ _ _ _) ?_
      rintro _ _ ⟨rfl, rfl⟩
      repeat (first|refine z_1 ?_|refine z_2 ?_|refine s_o ?_|refine z_3 ?_|refine z_4 ?_|refine z_5 ?_|refine z_6 ?_|refine z_7 ?_|refine z_8 ?_|refine z_9 ?_|refine z_a ?_|refine z_b ?_|refine z_d ?_|refine z_e ?_|refine z_f ?_|refine z_g ?_|refine z_h ?_|refine z_i ?_|refine z_j ?_|refine s_a ?_|refine s_s ?_|refine s_n ?_|refine s_i ?_|refine s_f ?_|refine s_b ?_|refine s_d ?_|refine s_l1 ?_|refine s_l2 ?_|refine s_l3 ?_|refine s_l4 ?_|refine s_l5 ?_|refine s_l6 ?_|refine s_l7 ?_|refine s_l8 ?_|refine s_l9 ?_|refine s_g ?_|refine s_q ?_|refine s_e ?_|refine s_j ?_)
      refine W_cond rfl (fun h2 => ?_) (fun h2 => ?_)
      · simp at h2
        repeat (first|refine z_1 ?_|refine z_2 ?_|refine s_o ?_|refine z_3 ?_|refine z_4 ?_|refine z_5 ?_|refine z_6 ?_|refine z_7 ?_|refine z_8 ?_|refine z_9 ?_|refine z_a ?_|refine z_b ?_|refine z_d ?_|refine z_e ?_|refine z_f ?_|refine z_g ?_|refine z_h ?_|refine z_i ?_|refine z_j ?_|refine s_a ?_|refine s_s ?_|refine s_n ?_|refine s_i ?_|refine s_f ?_|refine s_b ?_|refine s_d ?_|refine s_l1 ?_|refine s_l2 ?_|refine s_l3 ?_|refine s_l4 ?_|refine s_l5 ?_|refine s_l6 ?_|refine s_l7 ?_|refine s_l8 ?_|refine s_l9 ?_|refine s_g ?_|refine s_q ?_|refine s_e ?_|refine s_j ?_)
        exact ret1 rfl rfl ⟨by rw [arePairs, prOk, allB_false (k := k) (by omega) (by simp [h2])]; rfl, hk1⟩
      · simp at h2
        repeat (first|refine z_1 ?_|refine z_2 ?_|refine s_o ?_|refine z_3 ?_|refine z_4 ?_|refine z_5 ?_|refine z_6 ?_|refine z_7 ?_|refine z_8 ?_|refine z_9 ?_|refine z_a ?_|refine z_b ?_|refine z_d ?_|refine z_e ?_|refine z_f ?_|refine z_g ?_|refine z_h ?_|refine z_i ?_|refine z_j ?_|refine s_a ?_|refine s_s ?_|refine s_n ?_|refine s_i ?_|refine s_f ?_|refine s_b ?_|refine s_d ?_|refine s_l1 ?_|refine s_l2 ?_|refine s_l3 ?_|refine s_l4 ?_|refine s_l5 ?_|refine s_l6 ?_|refine s_l7 ?_|refine s_l8 ?_|refine s_l9 ?_|refine s_g ?_|refine s_q ?_|refine s_e ?_|refine s_j ?_)
        exact ⟨k + 1, ⟨rfl, rfl, rfl, rfl, trivial⟩, ⟨hk1, by omega, all_step hall (by simp [h, h2])⟩, by omega⟩
  simp at hc
  obtain rfl : k = n := by omega
  have hp : prOk l = true := by rw [prOk, allB_true (by rwa [← hnx])]
  repeat (first|refine z_1 ?_|refine z_2 ?_|refine s_o ?_|refine z_3 ?_|refine z_4 ?_|refine z_5 ?_|refine z_6 ?_|refine z_7 ?_|refine z_8 ?_|refine z_9 ?_|refine z_a ?_|refine z_b ?_|refine z_d ?_|refine z_e ?_|refine z_f ?_|refine z_g ?_|refine z_h ?_|refine z_i ?_|refine z_j ?_|refine s_a ?_|refine s_s ?_|refine s_n ?_|refine s_i ?_|refine s_f ?_|refine s_b ?_|refine s_d ?_|refine s_l1 ?_|refine s_l2 ?_|refine s_l3 ?_|refine s_l4 ?_|refine s_l5 ?_|refine s_l6 ?_|refine s_l7 ?_|refine s_l8 ?_|refine s_l9 ?_|refine s_g ?_|refine s_q ?_|refine s_e ?_|refine s_j ?_)
  refine o_call rfl rfl rfl (above_ok hx1 hp) ?_
  rintro _ w2 ⟨cs, rfl, hg, hk2⟩
  replace hk1 := hk1.keep hk2
  have hkz2 := hk1.size_le
  repeat (first|refine z_1 ?_|refine z_2 ?_|refine s_o ?_|refine z_3 ?_|refine z_4 ?_|refine z_5 ?_|refine z_6 ?_|refine z_7 ?_|refine z_8 ?_|refine z_9 ?_|refine z_a ?_|refine z_b ?_|refine z_d ?_|refine z_e ?_|refine z_f ?_|refine z_g ?_|refine z_h ?_|refine z_i ?_|refine z_j ?_|refine s_a ?_|refine s_s ?_|refine s_n ?_|refine s_i ?_|refine s_f ?_|refine s_b ?_|refine s_d ?_|refine s_l1 ?_|refine s_l2 ?_|refine s_l3 ?_|refine s_l4 ?_|refine s_l5 ?_|refine s_l6 ?_|refine s_l7 ?_|refine s_l8 ?_|refine s_l9 ?_|refine s_g ?_|refine s_q ?_|refine s_e ?_|refine s_j ?_)
  refine o_alloc rfl rfl ?_
  intro bG w3 hal3
  have hb3 := hal3.blk
  have hz3 := hal3.b_eq
  replace hk1 := hk1.keep hal3.kp
  have hs2 := hk2.size_le
  repeat (first|refine z_1 ?_|refine z_2 ?_|refine s_o ?_|refine z_3 ?_|refine z_4 ?_|refine z_5 ?_|refine z_6 ?_|refine z_7 ?_|refine z_8 ?_|refine z_9 ?_|refine z_a ?_|refine z_b ?_|refine z_d ?_|refine z_e ?_|refine z_f ?_|refine z_g ?_|refine z_h ?_|refine z_i ?_|refine z_j ?_|refine s_a ?_|refine s_s ?_|refine s_n ?_|refine s_i ?_|refine s_f ?_|refine s_b ?_|refine s_d ?_|refine s_l1 ?_|refine s_l2 ?_|refine s_l3 ?_|refine s_l4 ?_|refine s_l5 ?_|refine s_l6 ?_|refine s_l7 ?_|refine s_l8 ?_|refine s_l9 ?_|refine s_g ?_|refine s_q ?_|refine s_e ?_|refine s_j ?_)
  refine o_storeS (b := bG) (off := 0) rfl rfl rfl rfl hg.one hg.len hb3 (by simp) ?_
  intro w4 hu4
  have hb4 := hu4.blk
  have e4 : ∀ zs : List Value, zs.length = 100 → zs.take 0 ++ cs ++ zs.drop (0 + 100) = cs := fun zs h => by rw [List.drop_of_length_le (by omega)]; simp
  rw [e4 _ (by simp)] at hb4
  have hkz := hk1.size_le
  have hs0 : w.heap.size ≤ bG := by omega
  replace hk1 := hk1.upd hu4 hs0
  repeat (first|refine z_1 ?_|refine z_2 ?_|refine s_o ?_|refine z_3 ?_|refine z_4 ?_|refine z_5 ?_|refine z_6 ?_|refine z_7 ?_|refine z_8 ?_|refine z_9 ?_|refine z_a ?_|refine z_b ?_|refine z_d ?_|refine z_e ?_|refine z_f ?_|refine z_g ?_|refine z_h ?_|refine z_i ?_|refine z_j ?_|refine s_a ?_|refine s_s ?_|refine s_n ?_|refine s_i ?_|refine s_f ?_|refine s_b ?_|refine s_d ?_|refine s_l1 ?_|refine s_l2 ?_|refine s_l3 ?_|refine s_l4 ?_|refine s_l5 ?_|refine s_l6 ?_|refine s_l7 ?_|refine s_l8 ?_|refine s_l9 ?_|refine s_g ?_|refine s_q ?_|refine s_e ?_|refine s_j ?_)
  refine W_loop (S := Nat) (fun k' => [(0, .slice A k c), (5, .pointer (some ⟨bG, 0, none⟩)), (26, .int .i64 (k' : Int))]) (fun k' w' => Keep w4 w' ∧ k' ≤ 10 ∧ ∀ i, i < k' → (fun i : Nat => !reachB l (i : Int) (i : Int)) i = true) (fun k' => 10 - k') 0 ⟨rfl, rfl, rfl, trivial⟩ ⟨Keep.refl _, Nat.zero_le _, fun i hi => absurd hi (by omega)⟩ ?_
  rintro i w5 ⟨hk5, hi, hno⟩
  have hb5 := hb4.keep hk5
  replace hk1 := hk1.keep hk5
  repeat (first|refine z_1 ?_|refine z_2 ?_|refine s_o ?_|refine z_3 ?_|refine z_4 ?_|refine z_5 ?_|refine z_6 ?_|refine z_7 ?_|refine z_8 ?_|refine z_9 ?_|refine z_a ?_|refine z_b ?_|refine z_d ?_|refine z_e ?_|refine z_f ?_|refine z_g ?_|refine z_h ?_|refine z_i ?_|refine z_j ?_|refine s_a ?_|refine s_s ?_|refine s_n ?_|refine s_i ?_|refine s_f ?_|refine s_b ?_|refine s_d ?_|refine s_l1 ?_|refine s_l2 ?_|refine s_l3 ?_|refine s_l4 ?_|refine s_l5 ?_|refine s_l6 ?_|refine s_l7 ?_|refine s_l8 ?_|refine s_l9 ?_|refine s_g ?_|refine s_q ?_|refine s_e ?_|refine s_j ?_)
  refine W_cond rfl (fun hci => ?_) (fun hci => ?_)
  · have hi9 : i < 10 := by simp at hci; omega
    have hcell := hg.cellN hb5 hi9 hi9
    repeat (first|refine z_1 ?_|refine z_2 ?_|refine s_o ?_|refine z_3 ?_|refine z_4 ?_|refine z_5 ?_|refine z_6 ?_|refine z_7 ?_|refine z_8 ?_|refine z_9 ?_|refine z_a ?_|refine z_b ?_|refine z_d ?_|refine z_e ?_|refine z_f ?_|refine z_g ?_|refine z_h ?_|refine z_i ?_|refine z_j ?_|refine s_a ?_|refine s_s ?_|refine s_n ?_|refine s_i ?_|refine s_f ?_|refine s_b ?_|refine s_d ?_|refine s_l1 ?_|refine s_l2 ?_|refine s_l3 ?_|refine s_l4 ?_|refine s_l5 ?_|refine s_l6 ?_|refine s_l7 ?_|refine s_l8 ?_|refine s_l9 ?_|refine s_g ?_|refine s_q ?_|refine s_e ?_|refine s_j ?_)
    refine W_cond rfl (fun hd => ?_) (fun hd => ?_)
    · repeat (first|refine z_1 ?_|refine z_2 ?_|refine s_o ?_|refine z_3 ?_|refine z_4 ?_|refine z_5 ?_|refine z_6 ?_|refine z_7 ?_|refine z_8 ?_|refine z_9 ?_|refine z_a ?_|refine z_b ?_|refine z_d ?_|refine z_e ?_|refine z_f ?_|refine z_g ?_|refine z_h ?_|refine z_i ?_|refine z_j ?_|refine s_a ?_|refine s_s ?_|refine s_n ?_|refine s_i ?_|refine s_f ?_|refine s_b ?_|refine s_d ?_|refine s_l1 ?_|refine s_l2 ?_|refine s_l3 ?_|refine s_l4 ?_|refine s_l5 ?_|refine s_l6 ?_|refine s_l7 ?_|refine s_l8 ?_|refine s_l9 ?_|refine s_g ?_|refine s_q ?_|refine s_e ?_|refine s_j ?_)
      exact ret1 rfl rfl ⟨by rw [arePairs, noLoop, allB_false (f := fun v => !reachB l (v : Int) (v : Int)) (k := i) hi9 (by simp [hd]), Bool.and_false], hk1⟩
    · repeat (first|refine z_1 ?_|refine z_2 ?_|refine s_o ?_|refine z_3 ?_|refine z_4 ?_|refine z_5 ?_|refine z_6 ?_|refine z_7 ?_|refine z_8 ?_|refine z_9 ?_|refine z_a ?_|refine z_b ?_|refine z_d ?_|refine z_e ?_|refine z_f ?_|refine z_g ?_|refine z_h ?_|refine z_i ?_|refine z_j ?_|refine s_a ?_|refine s_s ?_|refine s_n ?_|refine s_i ?_|refine s_f ?_|refine s_b ?_|refine s_d ?_|refine s_l1 ?_|refine s_l2 ?_|refine s_l3 ?_|refine s_l4 ?_|refine s_l5 ?_|refine s_l6 ?_|refine s_l7 ?_|refine s_l8 ?_|refine s_l9 ?_|refine s_g ?_|refine s_q ?_|refine s_e ?_|refine s_j ?_)
      exact ⟨i + 1, ⟨rfl, rfl, rfl, trivial⟩, ⟨hk5, by omega, all_step hno (by simp [hd])⟩, by omega⟩
  · simp at hci
    obtain rfl : i = 10 := by omega
    repeat (first|refine z_1 ?_|refine z_2 ?_|refine s_o ?_|refine z_3 ?_|refine z_4 ?_|refine z_5 ?_|refine z_6 ?_|refine z_7 ?_|refine z_8 ?_|refine z_9 ?_|refine z_a ?_|refine z_b ?_|refine z_d ?_|refine z_e ?_|refine z_f ?_|refine z_g ?_|refine z_h ?_|refine z_i ?_|refine z_j ?_|refine s_a ?_|refine s_s ?_|refine s_n ?_|refine s_i ?_|refine s_f ?_|refine s_b ?_|refine s_d ?_|refine s_l1 ?_|refine s_l2 ?_|refine s_l3 ?_|refine s_l4 ?_|refine s_l5 ?_|refine s_l6 ?_|refine s_l7 ?_|refine s_l8 ?_|refine s_l9 ?_|refine s_g ?_|refine s_q ?_|refine s_e ?_|refine s_j ?_)
    refine ret1 rfl rfl ⟨?_, hk1⟩
    rw [arePairs, hp, Bool.true_and, noLoop, allB_true hno, Bool.and_true, ← hnx]
    congr 1
    rw [decide_eq_decide]; omega

set_option maxHeartbeats 1000000 in
theorem impl_IsWish_ok {w : World} {v u : Value} {x : Wsh} {f1 f2 : List Nat} (hl : Sl intR w v x.list f1) (hp : Sl pairR w u x.pairs f2) :
    Run Try.prog 163 [.agg #[.int .i64 x.kind, .int .i64 x.field, .int .i64 x.value, v, u]] w (fun r w' => r = .bool (isWish x) ∧ Keep w w') := by
  have hle := hl.le
  refine Run_intro Try.func163 (by unfold CallOk; kernel_rfl) rfl Try.ntmps163 (Nat.le_of_ble_eq_true rfl) ?_
  simp only [penv, Nat.reduceAdd, Nat.zero_add]
  repeat (first|refine z_1 ?_|refine z_2 ?_|refine s_o ?_|refine z_3 ?_|refine z_4 ?_|refine z_5 ?_|refine z_6 ?_|refine z_7 ?_|refine z_8 ?_|refine z_9 ?_|refine z_a ?_|refine z_b ?_|refine z_d ?_|refine z_e ?_|refine z_f ?_|refine z_g ?_|refine z_h ?_|refine z_i ?_|refine z_j ?_|refine s_a ?_|refine s_s ?_|refine s_n ?_|refine s_i ?_|refine s_f ?_|refine s_b ?_|refine s_d ?_|refine s_l1 ?_|refine s_l2 ?_|refine s_l3 ?_|refine s_l4 ?_|refine s_l5 ?_|refine s_l6 ?_|refine s_l7 ?_|refine s_l8 ?_|refine s_l9 ?_|refine s_g ?_|refine s_q ?_|refine s_e ?_|refine s_j ?_)
  refine o_boxS rfl rfl rfl ?_
  intro b1 w1 hal1
  have hb1 := hal1.blk
  have hk := hal1.kp
  replace hl := hl.keep hal1.kp
  replace hp := hp.keep hal1.kp
  obtain ⟨A1, n1, c1, rfl, hn1⟩ := hl.split
  obtain ⟨A2, n2, c2, rfl, hn2⟩ := hp.split
  repeat (first|refine z_1 ?_|refine z_2 ?_|refine s_o ?_|refine z_3 ?_|refine z_4 ?_|refine z_5 ?_|refine z_6 ?_|refine z_7 ?_|refine z_8 ?_|refine z_9 ?_|refine z_a ?_|refine z_b ?_|refine z_d ?_|refine z_e ?_|refine z_f ?_|refine z_g ?_|refine z_h ?_|refine z_i ?_|refine z_j ?_|refine s_a ?_|refine s_s ?_|refine s_n ?_|refine s_i ?_|refine s_f ?_|refine s_b ?_|refine s_d ?_|refine s_l1 ?_|refine s_l2 ?_|refine s_l3 ?_|refine s_l4 ?_|refine s_l5 ?_|refine s_l6 ?_|refine s_l7 ?_|refine s_l8 ?_|refine s_l9 ?_|refine s_g ?_|refine s_q ?_|refine s_e ?_|refine s_j ?_)
  refine o_call rfl rfl rfl (within_ok _ _ _ _) ?_
  rintro _ _ ⟨rfl, rfl⟩
  repeat (first|refine z_1 ?_|refine z_2 ?_|refine s_o ?_|refine z_3 ?_|refine z_4 ?_|refine z_5 ?_|refine z_6 ?_|refine z_7 ?_|refine z_8 ?_|refine z_9 ?_|refine z_a ?_|refine z_b ?_|refine z_d ?_|refine z_e ?_|refine z_f ?_|refine z_g ?_|refine z_h ?_|refine z_i ?_|refine z_j ?_|refine s_a ?_|refine s_s ?_|refine s_n ?_|refine s_i ?_|refine s_f ?_|refine s_b ?_|refine s_d ?_|refine s_l1 ?_|refine s_l2 ?_|refine s_l3 ?_|refine s_l4 ?_|refine s_l5 ?_|refine s_l6 ?_|refine s_l7 ?_|refine s_l8 ?_|refine s_l9 ?_|refine s_g ?_|refine s_q ?_|refine s_e ?_|refine s_j ?_)
  refine WL_part rfl rfl (fun h1 => ?_) (fun h1 => ?_)
  · simp at h1
    repeat (first|refine z_1 ?_|refine z_2 ?_|refine s_o ?_|refine z_3 ?_|refine z_4 ?_|refine z_5 ?_|refine z_6 ?_|refine z_7 ?_|refine z_8 ?_|refine z_9 ?_|refine z_a ?_|refine z_b ?_|refine z_d ?_|refine z_e ?_|refine z_f ?_|refine z_g ?_|refine z_h ?_|refine z_i ?_|refine z_j ?_|refine s_a ?_|refine s_s ?_|refine s_n ?_|refine s_i ?_|refine s_f ?_|refine s_b ?_|refine s_d ?_|refine s_l1 ?_|refine s_l2 ?_|refine s_l3 ?_|refine s_l4 ?_|refine s_l5 ?_|refine s_l6 ?_|refine s_l7 ?_|refine s_l8 ?_|refine s_l9 ?_|refine s_g ?_|refine s_q ?_|refine s_e ?_|refine s_j ?_)
    exact ret1 rfl rfl ⟨by rw [isWish, h1]; rfl, hk⟩
  simp at h1
  repeat (first|refine z_1 ?_|refine z_2 ?_|refine s_o ?_|refine z_3 ?_|refine z_4 ?_|refine z_5 ?_|refine z_6 ?_|refine z_7 ?_|refine z_8 ?_|refine z_9 ?_|refine z_a ?_|refine z_b ?_|refine z_d ?_|refine z_e ?_|refine z_f ?_|refine z_g ?_|refine z_h ?_|refine z_i ?_|refine z_j ?_|refine s_a ?_|refine s_s ?_|refine s_n ?_|refine s_i ?_|refine s_f ?_|refine s_b ?_|refine s_d ?_|refine s_l1 ?_|refine s_l2 ?_|refine s_l3 ?_|refine s_l4 ?_|refine s_l5 ?_|refine s_l6 ?_|refine s_l7 ?_|refine s_l8 ?_|refine s_l9 ?_|refine s_g ?_|refine s_q ?_|refine s_e ?_|refine s_j ?_)
  refine o_call rfl rfl rfl (within_ok _ _ _ _) ?_
  rintro _ _ ⟨rfl, rfl⟩
  repeat (first|refine z_1 ?_|refine z_2 ?_|refine s_o ?_|refine z_3 ?_|refine z_4 ?_|refine z_5 ?_|refine z_6 ?_|refine z_7 ?_|refine z_8 ?_|refine z_9 ?_|refine z_a ?_|refine z_b ?_|refine z_d ?_|refine z_e ?_|refine z_f ?_|refine z_g ?_|refine z_h ?_|refine z_i ?_|refine z_j ?_|refine s_a ?_|refine s_s ?_|refine s_n ?_|refine s_i ?_|refine s_f ?_|refine s_b ?_|refine s_d ?_|refine s_l1 ?_|refine s_l2 ?_|refine s_l3 ?_|refine s_l4 ?_|refine s_l5 ?_|refine s_l6 ?_|refine s_l7 ?_|refine s_l8 ?_|refine s_l9 ?_|refine s_g ?_|refine s_q ?_|refine s_e ?_|refine s_j ?_)
  refine WL_part rfl rfl (fun h2 => ?_) (fun h2 => ?_)
  · simp at h2
    repeat (first|refine z_1 ?_|refine z_2 ?_|refine s_o ?_|refine z_3 ?_|refine z_4 ?_|refine z_5 ?_|refine z_6 ?_|refine z_7 ?_|refine z_8 ?_|refine z_9 ?_|refine z_a ?_|refine z_b ?_|refine z_d ?_|refine z_e ?_|refine z_f ?_|refine z_g ?_|refine z_h ?_|refine z_i ?_|refine z_j ?_|refine s_a ?_|refine s_s ?_|refine s_n ?_|refine s_i ?_|refine s_f ?_|refine s_b ?_|refine s_d ?_|refine s_l1 ?_|refine s_l2 ?_|refine s_l3 ?_|refine s_l4 ?_|refine s_l5 ?_|refine s_l6 ?_|refine s_l7 ?_|refine s_l8 ?_|refine s_l9 ?_|refine s_g ?_|refine s_q ?_|refine s_e ?_|refine s_j ?_)
    exact ret1 rfl rfl ⟨by rw [isWish, h1, h2]; rfl, hk⟩
  simp at h2
  repeat (first|refine z_1 ?_|refine z_2 ?_|refine s_o ?_|refine z_3 ?_|refine z_4 ?_|refine z_5 ?_|refine z_6 ?_|refine z_7 ?_|refine z_8 ?_|refine z_9 ?_|refine z_a ?_|refine z_b ?_|refine z_d ?_|refine z_e ?_|refine z_f ?_|refine z_g ?_|refine z_h ?_|refine z_i ?_|refine z_j ?_|refine s_a ?_|refine s_s ?_|refine s_n ?_|refine s_i ?_|refine s_f ?_|refine s_b ?_|refine s_d ?_|refine s_l1 ?_|refine s_l2 ?_|refine s_l3 ?_|refine s_l4 ?_|refine s_l5 ?_|refine s_l6 ?_|refine s_l7 ?_|refine s_l8 ?_|refine s_l9 ?_|refine s_g ?_|refine s_q ?_|refine s_e ?_|refine s_j ?_)
  refine o_call rfl rfl rfl (within_ok _ _ _ _) ?_
  rintro _ _ ⟨rfl, rfl⟩
  repeat (first|refine z_1 ?_|refine z_2 ?_|refine s_o ?_|refine z_3 ?_|refine z_4 ?_|refine z_5 ?_|refine z_6 ?_|refine z_7 ?_|refine z_8 ?_|refine z_9 ?_|refine z_a ?_|refine z_b ?_|refine z_d ?_|refine z_e ?_|refine z_f ?_|refine z_g ?_|refine z_h ?_|refine z_i ?_|refine z_j ?_|refine s_a ?_|refine s_s ?_|refine s_n ?_|refine s_i ?_|refine s_f ?_|refine s_b ?_|refine s_d ?_|refine s_l1 ?_|refine s_l2 ?_|refine s_l3 ?_|refine s_l4 ?_|refine s_l5 ?_|refine s_l6 ?_|refine s_l7 ?_|refine s_l8 ?_|refine s_l9 ?_|refine s_g ?_|refine s_q ?_|refine s_e ?_|refine s_j ?_)
  refine W_cond rfl (fun h3 => ?_) (fun h3 => ?_)
  · simp at h3
    repeat (first|refine z_1 ?_|refine z_2 ?_|refine s_o ?_|refine z_3 ?_|refine z_4 ?_|refine z_5 ?_|refine z_6 ?_|refine z_7 ?_|refine z_8 ?_|refine z_9 ?_|refine z_a ?_|refine z_b ?_|refine z_d ?_|refine z_e ?_|refine z_f ?_|refine z_g ?_|refine z_h ?_|refine z_i ?_|refine z_j ?_|refine s_a ?_|refine s_s ?_|refine s_n ?_|refine s_i ?_|refine s_f ?_|refine s_b ?_|refine s_d ?_|refine s_l1 ?_|refine s_l2 ?_|refine s_l3 ?_|refine s_l4 ?_|refine s_l5 ?_|refine s_l6 ?_|refine s_l7 ?_|refine s_l8 ?_|refine s_l9 ?_|refine s_g ?_|refine s_q ?_|refine s_e ?_|refine s_j ?_)
    exact ret1 rfl rfl ⟨by rw [isWish, h1, h2, h3]; rfl, hk⟩
  simp at h3
  repeat (first|refine z_1 ?_|refine z_2 ?_|refine s_o ?_|refine z_3 ?_|refine z_4 ?_|refine z_5 ?_|refine z_6 ?_|refine z_7 ?_|refine z_8 ?_|refine z_9 ?_|refine z_a ?_|refine z_b ?_|refine z_d ?_|refine z_e ?_|refine z_f ?_|refine z_g ?_|refine z_h ?_|refine z_i ?_|refine z_j ?_|refine s_a ?_|refine s_s ?_|refine s_n ?_|refine s_i ?_|refine s_f ?_|refine s_b ?_|refine s_d ?_|refine s_l1 ?_|refine s_l2 ?_|refine s_l3 ?_|refine s_l4 ?_|refine s_l5 ?_|refine s_l6 ?_|refine s_l7 ?_|refine s_l8 ?_|refine s_l9 ?_|refine s_g ?_|refine s_q ?_|refine s_e ?_|refine s_j ?_)
  refine W_loop (S := Nat) (fun k => [(1, .pointer (some ⟨b1, 0, none⟩)), (22, .slice A1 n1 c1), (23, .int .i64 n1), (24, .int .i64 (k : Int))]) (fun k w' => w1 = w' ∧ k ≤ n1 ∧ ∀ i, i < k → ascAt 9 x.list i = true) (fun k => n1 - k) 0 ⟨rfl, rfl, rfl, rfl, trivial⟩ ⟨rfl, Nat.zero_le _, fun i hi => absurd hi (by omega)⟩ ?_
  rintro k _ ⟨rfl, hkn, hall⟩
  repeat (first|refine z_1 ?_|refine z_2 ?_|refine s_o ?_|refine z_3 ?_|refine z_4 ?_|refine z_5 ?_|refine z_6 ?_|refine z_7 ?_|refine z_8 ?_|refine z_9 ?_|refine z_a ?_|refine z_b ?_|refine z_d ?_|refine z_e ?_|refine z_f ?_|refine z_g ?_|refine z_h ?_|refine z_i ?_|refine z_j ?_|refine s_a ?_|refine s_s ?_|refine s_n ?_|refine s_i ?_|refine s_f ?_|refine s_b ?_|refine s_d ?_|refine s_l1 ?_|refine s_l2 ?_|refine s_l3 ?_|refine s_l4 ?_|refine s_l5 ?_|refine s_l6 ?_|refine s_l7 ?_|refine s_l8 ?_|refine s_l9 ?_|refine s_g ?_|refine s_q ?_|refine s_e ?_|refine s_j ?_)
  refine W_cond rfl (fun hc => ?_) (fun hc => ?_)
  · have hkl : k < n1 := by simp at hc; omega
    obtain ⟨hA, hck⟩ := hl.getI (i := (k : Int)) (by omega) (by omega)
    repeat (first|refine z_1 ?_|refine z_2 ?_|refine s_o ?_|refine z_3 ?_|refine z_4 ?_|refine z_5 ?_|refine z_6 ?_|refine z_7 ?_|refine z_8 ?_|refine z_9 ?_|refine z_a ?_|refine z_b ?_|refine z_d ?_|refine z_e ?_|refine z_f ?_|refine z_g ?_|refine z_h ?_|refine z_i ?_|refine z_j ?_|refine s_a ?_|refine s_s ?_|refine s_n ?_|refine s_i ?_|refine s_f ?_|refine s_b ?_|refine s_d ?_|refine s_l1 ?_|refine s_l2 ?_|refine s_l3 ?_|refine s_l4 ?_|refine s_l5 ?_|refine s_l6 ?_|refine s_l7 ?_|refine s_l8 ?_|refine s_l9 ?_|refine s_g ?_|refine s_q ?_|refine s_e ?_|refine s_j ?_)
    refine o_call rfl rfl rfl (within_ok _ _ _ _) ?_
    rintro _ _ ⟨rfl, rfl⟩
    repeat (first|refine z_1 ?_|refine z_2 ?_|refine s_o ?_|refine z_3 ?_|refine z_4 ?_|refine z_5 ?_|refine z_6 ?_|refine z_7 ?_|refine z_8 ?_|refine z_9 ?_|refine z_a ?_|refine z_b ?_|refine z_d ?_|refine z_e ?_|refine z_f ?_|refine z_g ?_|refine z_h ?_|refine z_i ?_|refine z_j ?_|refine s_a ?_|refine s_s ?_|refine s_n ?_|refine s_i ?_|refine s_f ?_|refine s_b ?_|refine s_d ?_|refine s_l1 ?_|refine s_l2 ?_|refine s_l3 ?_|refine s_l4 ?_|refine s_l5 ?_|refine s_l6 ?_|refine s_l7 ?_|refine s_l8 ?_|refine s_l9 ?_|refine s_g ?_|refine s_q ?_|refine s_e ?_|refine s_j ?_)
    refine WL_part rfl rfl (fun g1 => ?_) (fun g1 => ?_)
    · simp at g1
      repeat (first|refine z_1 ?_|refine z_2 ?_|refine s_o ?_|refine z_3 ?_|refine z_4 ?_|refine z_5 ?_|refine z_6 ?_|refine z_7 ?_|refine z_8 ?_|refine z_9 ?_|refine z_a ?_|refine z_b ?_|refine z_d ?_|refine z_e ?_|refine z_f ?_|refine z_g ?_|refine z_h ?_|refine z_i ?_|refine z_j ?_|refine s_a ?_|refine s_s ?_|refine s_n ?_|refine s_i ?_|refine s_f ?_|refine s_b ?_|refine s_d ?_|refine s_l1 ?_|refine s_l2 ?_|refine s_l3 ?_|refine s_l4 ?_|refine s_l5 ?_|refine s_l6 ?_|refine s_l7 ?_|refine s_l8 ?_|refine s_l9 ?_|refine s_g ?_|refine s_q ?_|refine s_e ?_|refine s_j ?_)
      exact ret1 rfl rfl ⟨by rw [isWish, ascL, allB_false (k := k) (by omega) (by simp [ascAt, g1]), h1, h2, h3]; rfl, hk⟩
    simp at g1
    repeat (first|refine z_1 ?_|refine z_2 ?_|refine s_o ?_|refine z_3 ?_|refine z_4 ?_|refine z_5 ?_|refine z_6 ?_|refine z_7 ?_|refine z_8 ?_|refine z_9 ?_|refine z_a ?_|refine z_b ?_|refine z_d ?_|refine z_e ?_|refine z_f ?_|refine z_g ?_|refine z_h ?_|refine z_i ?_|refine z_j ?_|refine s_a ?_|refine s_s ?_|refine s_n ?_|refine s_i ?_|refine s_f ?_|refine s_b ?_|refine s_d ?_|refine s_l1 ?_|refine s_l2 ?_|refine s_l3 ?_|refine s_l4 ?_|refine s_l5 ?_|refine s_l6 ?_|refine s_l7 ?_|refine s_l8 ?_|refine s_l9 ?_|refine s_g ?_|refine s_q ?_|refine s_e ?_|refine s_j ?_)
    refine WL_part rfl rfl (fun g2 => ?_) (fun g2 => ?_)
    · simp at g2
      obtain ⟨hA', hck'⟩ := hl.getI (i := (k : Int) - 1) (by omega) (by omega)
      repeat (first|refine z_1 ?_|refine z_2 ?_|refine s_o ?_|refine z_3 ?_|refine z_4 ?_|refine z_5 ?_|refine z_6 ?_|refine z_7 ?_|refine z_8 ?_|refine z_9 ?_|refine z_a ?_|refine z_b ?_|refine z_d ?_|refine z_e ?_|refine z_f ?_|refine z_g ?_|refine z_h ?_|refine z_i ?_|refine z_j ?_|refine s_a ?_|refine s_s ?_|refine s_n ?_|refine s_i ?_|refine s_f ?_|refine s_b ?_|refine s_d ?_|refine s_l1 ?_|refine s_l2 ?_|refine s_l3 ?_|refine s_l4 ?_|refine s_l5 ?_|refine s_l6 ?_|refine s_l7 ?_|refine s_l8 ?_|refine s_l9 ?_|refine s_g ?_|refine s_q ?_|refine s_e ?_|refine s_j ?_)
      refine W_cond rfl (fun g3 => ?_) (fun g3 => ?_)
      · simp at g3
        repeat (first|refine z_1 ?_|refine z_2 ?_|refine s_o ?_|refine z_3 ?_|refine z_4 ?_|refine z_5 ?_|refine z_6 ?_|refine z_7 ?_|refine z_8 ?_|refine z_9 ?_|refine z_a ?_|refine z_b ?_|refine z_d ?_|refine z_e ?_|refine z_f ?_|refine z_g ?_|refine z_h ?_|refine z_i ?_|refine z_j ?_|refine s_a ?_|refine s_s ?_|refine s_n ?_|refine s_i ?_|refine s_f ?_|refine s_b ?_|refine s_d ?_|refine s_l1 ?_|refine s_l2 ?_|refine s_l3 ?_|refine s_l4 ?_|refine s_l5 ?_|refine s_l6 ?_|refine s_l7 ?_|refine s_l8 ?_|refine s_l9 ?_|refine s_g ?_|refine s_q ?_|refine s_e ?_|refine s_j ?_)
        exact ret1 rfl rfl ⟨by rw [isWish, ascL, allB_false (k := k) (by omega) (by simp [ascAt, g1, g3]; omega), h1, h2, h3]; rfl, hk⟩
      · simp at g3
        repeat (first|refine z_1 ?_|refine z_2 ?_|refine s_o ?_|refine z_3 ?_|refine z_4 ?_|refine z_5 ?_|refine z_6 ?_|refine z_7 ?_|refine z_8 ?_|refine z_9 ?_|refine z_a ?_|refine z_b ?_|refine z_d ?_|refine z_e ?_|refine z_f ?_|refine z_g ?_|refine z_h ?_|refine z_i ?_|refine z_j ?_|refine s_a ?_|refine s_s ?_|refine s_n ?_|refine s_i ?_|refine s_f ?_|refine s_b ?_|refine s_d ?_|refine s_l1 ?_|refine s_l2 ?_|refine s_l3 ?_|refine s_l4 ?_|refine s_l5 ?_|refine s_l6 ?_|refine s_l7 ?_|refine s_l8 ?_|refine s_l9 ?_|refine s_g ?_|refine s_q ?_|refine s_e ?_|refine s_j ?_)
        exact ⟨k + 1, ⟨rfl, rfl, rfl, rfl, trivial⟩, ⟨rfl, by omega, all_step hall (by simp [ascAt, g1, g3])⟩, by omega⟩
    · simp at g2
      repeat (first|refine z_1 ?_|refine z_2 ?_|refine s_o ?_|refine z_3 ?_|refine z_4 ?_|refine z_5 ?_|refine z_6 ?_|refine z_7 ?_|refine z_8 ?_|refine z_9 ?_|refine z_a ?_|refine z_b ?_|refine z_d ?_|refine z_e ?_|refine z_f ?_|refine z_g ?_|refine z_h ?_|refine z_i ?_|refine z_j ?_|refine s_a ?_|refine s_s ?_|refine s_n ?_|refine s_i ?_|refine s_f ?_|refine s_b ?_|refine s_d ?_|refine s_l1 ?_|refine s_l2 ?_|refine s_l3 ?_|refine s_l4 ?_|refine s_l5 ?_|refine s_l6 ?_|refine s_l7 ?_|refine s_l8 ?_|refine s_l9 ?_|refine s_g ?_|refine s_q ?_|refine s_e ?_|refine s_j ?_)
      exact ⟨k + 1, ⟨rfl, rfl, rfl, rfl, trivial⟩, ⟨rfl, by omega, all_step hall (by simp [ascAt, g1]; omega)⟩, by omega⟩
  simp at hc
  obtain rfl : k = n1 := by omega
  have hasc : ascL x.list = true := by rw [ascL, allB_true (by rwa [← hn1])]
  have hw0 : isWish x = ((decide (x.kind = 2) || decide (x.value = 0)) && (decide (x.kind = 3) == decide (0 < x.list.length)) && (if x.kind = 4 then arePairs x.pairs else decide (x.pairs.length = 0))) := by
    rw [isWish, h1, h2, h3, hasc]; simp
  have e2 : decide ((n2 : Int) = 0) = decide (x.pairs.length = 0) := by rw [decide_eq_decide]; omega
  have el : decide ((0 : Int) < (k : Int)) = decide (0 < x.list.length) := by rw [decide_eq_decide]; omega
  clear hc hall
  repeat (first|refine z_1 ?_|refine z_2 ?_|refine s_o ?_|refine z_3 ?_|refine z_4 ?_|refine z_5 ?_|refine z_6 ?_|refine z_7 ?_|refine z_8 ?_|refine z_9 ?_|refine z_a ?_|refine z_b ?_|refine z_d ?_|refine z_e ?_|refine z_f ?_|refine z_g ?_|refine z_h ?_|refine z_i ?_|refine z_j ?_|refine s_a ?_|refine s_s ?_|refine s_n ?_|refine s_i ?_|refine s_f ?_|refine s_b ?_|refine s_d ?_|refine s_l1 ?_|refine s_l2 ?_|refine s_l3 ?_|refine s_l4 ?_|refine s_l5 ?_|refine s_l6 ?_|refine s_l7 ?_|refine s_l8 ?_|refine s_l9 ?_|refine s_g ?_|refine s_q ?_|refine s_e ?_|refine s_j ?_)
  refine WL_part rfl rfl (fun q1 => ?_) (fun q1 => ?_)
  · simp only [decide_eq_true_eq] at q1
    repeat (first|refine z_1 ?_|refine z_2 ?_|refine s_o ?_|refine z_3 ?_|refine z_4 ?_|refine z_5 ?_|refine z_6 ?_|refine z_7 ?_|refine z_8 ?_|refine z_9 ?_|refine z_a ?_|refine z_b ?_|refine z_d ?_|refine z_e ?_|refine z_f ?_|refine z_g ?_|refine z_h ?_|refine z_i ?_|refine z_j ?_|refine s_a ?_|refine s_s ?_|refine s_n ?_|refine s_i ?_|refine s_f ?_|refine s_b ?_|refine s_d ?_|refine s_l1 ?_|refine s_l2 ?_|refine s_l3 ?_|refine s_l4 ?_|refine s_l5 ?_|refine s_l6 ?_|refine s_l7 ?_|refine s_l8 ?_|refine s_l9 ?_|refine s_g ?_|refine s_q ?_|refine s_e ?_|refine s_j ?_)
    refine WL_part rfl rfl (fun q2 => ?_) (fun q2 => ?_)
    · simp only [decide_eq_true_eq] at q2
      repeat (first|refine z_1 ?_|refine z_2 ?_|refine s_o ?_|refine z_3 ?_|refine z_4 ?_|refine z_5 ?_|refine z_6 ?_|refine z_7 ?_|refine z_8 ?_|refine z_9 ?_|refine z_a ?_|refine z_b ?_|refine z_d ?_|refine z_e ?_|refine z_f ?_|refine z_g ?_|refine z_h ?_|refine z_i ?_|refine z_j ?_|refine s_a ?_|refine s_s ?_|refine s_n ?_|refine s_i ?_|refine s_f ?_|refine s_b ?_|refine s_d ?_|refine s_l1 ?_|refine s_l2 ?_|refine s_l3 ?_|refine s_l4 ?_|refine s_l5 ?_|refine s_l6 ?_|refine s_l7 ?_|refine s_l8 ?_|refine s_l9 ?_|refine s_g ?_|refine s_q ?_|refine s_e ?_|refine s_j ?_)
      exact ret1 rfl rfl ⟨by rw [hw0]; simp [q1, q2], hk⟩
    · simp at q2
      repeat (first|refine z_1 ?_|refine z_2 ?_|refine s_o ?_|refine z_3 ?_|refine z_4 ?_|refine z_5 ?_|refine z_6 ?_|refine z_7 ?_|refine z_8 ?_|refine z_9 ?_|refine z_a ?_|refine z_b ?_|refine z_d ?_|refine z_e ?_|refine z_f ?_|refine z_g ?_|refine z_h ?_|refine z_i ?_|refine z_j ?_|refine s_a ?_|refine s_s ?_|refine s_n ?_|refine s_i ?_|refine s_f ?_|refine s_b ?_|refine s_d ?_|refine s_l1 ?_|refine s_l2 ?_|refine s_l3 ?_|refine s_l4 ?_|refine s_l5 ?_|refine s_l6 ?_|refine s_l7 ?_|refine s_l8 ?_|refine s_l9 ?_|refine s_g ?_|refine s_q ?_|refine s_e ?_|refine s_j ?_)
      refine W_cond rfl (fun q3 => ?_) (fun q3 => ?_)
      · simp only [Bool.not_eq_true'] at q3
        repeat (first|refine z_1 ?_|refine z_2 ?_|refine s_o ?_|refine z_3 ?_|refine z_4 ?_|refine z_5 ?_|refine z_6 ?_|refine z_7 ?_|refine z_8 ?_|refine z_9 ?_|refine z_a ?_|refine z_b ?_|refine z_d ?_|refine z_e ?_|refine z_f ?_|refine z_g ?_|refine z_h ?_|refine z_i ?_|refine z_j ?_|refine s_a ?_|refine s_s ?_|refine s_n ?_|refine s_i ?_|refine s_f ?_|refine s_b ?_|refine s_d ?_|refine s_l1 ?_|refine s_l2 ?_|refine s_l3 ?_|refine s_l4 ?_|refine s_l5 ?_|refine s_l6 ?_|refine s_l7 ?_|refine s_l8 ?_|refine s_l9 ?_|refine s_g ?_|refine s_q ?_|refine s_e ?_|refine s_j ?_)
        exact ret1 rfl rfl ⟨by rw [hw0, ← el, q3, Bool.and_false, Bool.false_and], hk⟩
      · simp only [Bool.not_eq_false'] at q3
        repeat (first|refine z_1 ?_|refine z_2 ?_|refine s_o ?_|refine z_3 ?_|refine z_4 ?_|refine z_5 ?_|refine z_6 ?_|refine z_7 ?_|refine z_8 ?_|refine z_9 ?_|refine z_a ?_|refine z_b ?_|refine z_d ?_|refine z_e ?_|refine z_f ?_|refine z_g ?_|refine z_h ?_|refine z_i ?_|refine z_j ?_|refine s_a ?_|refine s_s ?_|refine s_n ?_|refine s_i ?_|refine s_f ?_|refine s_b ?_|refine s_d ?_|refine s_l1 ?_|refine s_l2 ?_|refine s_l3 ?_|refine s_l4 ?_|refine s_l5 ?_|refine s_l6 ?_|refine s_l7 ?_|refine s_l8 ?_|refine s_l9 ?_|refine s_g ?_|refine s_q ?_|refine s_e ?_|refine s_j ?_)
        refine W_cond rfl (fun q4 => ?_) (fun q4 => ?_)
        · simp at q4
          repeat (first|refine z_1 ?_|refine z_2 ?_|refine s_o ?_|refine z_3 ?_|refine z_4 ?_|refine z_5 ?_|refine z_6 ?_|refine z_7 ?_|refine z_8 ?_|refine z_9 ?_|refine z_a ?_|refine z_b ?_|refine z_d ?_|refine z_e ?_|refine z_f ?_|refine z_g ?_|refine z_h ?_|refine z_i ?_|refine z_j ?_|refine s_a ?_|refine s_s ?_|refine s_n ?_|refine s_i ?_|refine s_f ?_|refine s_b ?_|refine s_d ?_|refine s_l1 ?_|refine s_l2 ?_|refine s_l3 ?_|refine s_l4 ?_|refine s_l5 ?_|refine s_l6 ?_|refine s_l7 ?_|refine s_l8 ?_|refine s_l9 ?_|refine s_g ?_|refine s_q ?_|refine s_e ?_|refine s_j ?_)
          refine o_call rfl rfl rfl (impl_ArePairs_ok hp) ?_
          rintro _ w3 ⟨rfl, hk3⟩
          repeat (first|refine z_1 ?_|refine z_2 ?_|refine s_o ?_|refine z_3 ?_|refine z_4 ?_|refine z_5 ?_|refine z_6 ?_|refine z_7 ?_|refine z_8 ?_|refine z_9 ?_|refine z_a ?_|refine z_b ?_|refine z_d ?_|refine z_e ?_|refine z_f ?_|refine z_g ?_|refine z_h ?_|refine z_i ?_|refine z_j ?_|refine s_a ?_|refine s_s ?_|refine s_n ?_|refine s_i ?_|refine s_f ?_|refine s_b ?_|refine s_d ?_|refine s_l1 ?_|refine s_l2 ?_|refine s_l3 ?_|refine s_l4 ?_|refine s_l5 ?_|refine s_l6 ?_|refine s_l7 ?_|refine s_l8 ?_|refine s_l9 ?_|refine s_g ?_|refine s_q ?_|refine s_e ?_|refine s_j ?_)
          exact ret1 rfl rfl ⟨by rw [hw0, ← el, q3, if_pos q4]; simp [q2], hk.keep hk3⟩
        · simp at q4
          repeat (first|refine z_1 ?_|refine z_2 ?_|refine s_o ?_|refine z_3 ?_|refine z_4 ?_|refine z_5 ?_|refine z_6 ?_|refine z_7 ?_|refine z_8 ?_|refine z_9 ?_|refine z_a ?_|refine z_b ?_|refine z_d ?_|refine z_e ?_|refine z_f ?_|refine z_g ?_|refine z_h ?_|refine z_i ?_|refine z_j ?_|refine s_a ?_|refine s_s ?_|refine s_n ?_|refine s_i ?_|refine s_f ?_|refine s_b ?_|refine s_d ?_|refine s_l1 ?_|refine s_l2 ?_|refine s_l3 ?_|refine s_l4 ?_|refine s_l5 ?_|refine s_l6 ?_|refine s_l7 ?_|refine s_l8 ?_|refine s_l9 ?_|refine s_g ?_|refine s_q ?_|refine s_e ?_|refine s_j ?_)
          exact ret1 rfl rfl ⟨by rw [hw0, ← el, q3, if_neg q4, e2]; simp [q2], hk⟩
  · simp at q1
    repeat (first|refine z_1 ?_|refine z_2 ?_|refine s_o ?_|refine z_3 ?_|refine z_4 ?_|refine z_5 ?_|refine z_6 ?_|refine z_7 ?_|refine z_8 ?_|refine z_9 ?_|refine z_a ?_|refine z_b ?_|refine z_d ?_|refine z_e ?_|refine z_f ?_|refine z_g ?_|refine z_h ?_|refine z_i ?_|refine z_j ?_|refine s_a ?_|refine s_s ?_|refine s_n ?_|refine s_i ?_|refine s_f ?_|refine s_b ?_|refine s_d ?_|refine s_l1 ?_|refine s_l2 ?_|refine s_l3 ?_|refine s_l4 ?_|refine s_l5 ?_|refine s_l6 ?_|refine s_l7 ?_|refine s_l8 ?_|refine s_l9 ?_|refine s_g ?_|refine s_q ?_|refine s_e ?_|refine s_j ?_)
    refine W_cond rfl (fun q3 => ?_) (fun q3 => ?_)
    · simp only [Bool.not_eq_true'] at q3
      repeat (first|refine z_1 ?_|refine z_2 ?_|refine s_o ?_|refine z_3 ?_|refine z_4 ?_|refine z_5 ?_|refine z_6 ?_|refine z_7 ?_|refine z_8 ?_|refine z_9 ?_|refine z_a ?_|refine z_b ?_|refine z_d ?_|refine z_e ?_|refine z_f ?_|refine z_g ?_|refine z_h ?_|refine z_i ?_|refine z_j ?_|refine s_a ?_|refine s_s ?_|refine s_n ?_|refine s_i ?_|refine s_f ?_|refine s_b ?_|refine s_d ?_|refine s_l1 ?_|refine s_l2 ?_|refine s_l3 ?_|refine s_l4 ?_|refine s_l5 ?_|refine s_l6 ?_|refine s_l7 ?_|refine s_l8 ?_|refine s_l9 ?_|refine s_g ?_|refine s_q ?_|refine s_e ?_|refine s_j ?_)
      exact ret1 rfl rfl ⟨by rw [hw0, ← el, q3, Bool.and_false, Bool.false_and], hk⟩
    · simp only [Bool.not_eq_false'] at q3
      repeat (first|refine z_1 ?_|refine z_2 ?_|refine s_o ?_|refine z_3 ?_|refine z_4 ?_|refine z_5 ?_|refine z_6 ?_|refine z_7 ?_|refine z_8 ?_|refine z_9 ?_|refine z_a ?_|refine z_b ?_|refine z_d ?_|refine z_e ?_|refine z_f ?_|refine z_g ?_|refine z_h ?_|refine z_i ?_|refine z_j ?_|refine s_a ?_|refine s_s ?_|refine s_n ?_|refine s_i ?_|refine s_f ?_|refine s_b ?_|refine s_d ?_|refine s_l1 ?_|refine s_l2 ?_|refine s_l3 ?_|refine s_l4 ?_|refine s_l5 ?_|refine s_l6 ?_|refine s_l7 ?_|refine s_l8 ?_|refine s_l9 ?_|refine s_g ?_|refine s_q ?_|refine s_e ?_|refine s_j ?_)
      refine W_cond rfl (fun q4 => ?_) (fun q4 => ?_)
      · simp at q4
        repeat (first|refine z_1 ?_|refine z_2 ?_|refine s_o ?_|refine z_3 ?_|refine z_4 ?_|refine z_5 ?_|refine z_6 ?_|refine z_7 ?_|refine z_8 ?_|refine z_9 ?_|refine z_a ?_|refine z_b ?_|refine z_d ?_|refine z_e ?_|refine z_f ?_|refine z_g ?_|refine z_h ?_|refine z_i ?_|refine z_j ?_|refine s_a ?_|refine s_s ?_|refine s_n ?_|refine s_i ?_|refine s_f ?_|refine s_b ?_|refine s_d ?_|refine s_l1 ?_|refine s_l2 ?_|refine s_l3 ?_|refine s_l4 ?_|refine s_l5 ?_|refine s_l6 ?_|refine s_l7 ?_|refine s_l8 ?_|refine s_l9 ?_|refine s_g ?_|refine s_q ?_|refine s_e ?_|refine s_j ?_)
        refine o_call rfl rfl rfl (impl_ArePairs_ok hp) ?_
        rintro _ w3 ⟨rfl, hk3⟩
        repeat (first|refine z_1 ?_|refine z_2 ?_|refine s_o ?_|refine z_3 ?_|refine z_4 ?_|refine z_5 ?_|refine z_6 ?_|refine z_7 ?_|refine z_8 ?_|refine z_9 ?_|refine z_a ?_|refine z_b ?_|refine z_d ?_|refine z_e ?_|refine z_f ?_|refine z_g ?_|refine z_h ?_|refine z_i ?_|refine z_j ?_|refine s_a ?_|refine s_s ?_|refine s_n ?_|refine s_i ?_|refine s_f ?_|refine s_b ?_|refine s_d ?_|refine s_l1 ?_|refine s_l2 ?_|refine s_l3 ?_|refine s_l4 ?_|refine s_l5 ?_|refine s_l6 ?_|refine s_l7 ?_|refine s_l8 ?_|refine s_l9 ?_|refine s_g ?_|refine s_q ?_|refine s_e ?_|refine s_j ?_)
        exact ret1 rfl rfl ⟨by rw [hw0, ← el, q3, if_pos q4]; simp [q1], hk.keep hk3⟩
      · simp at q4
        repeat (first|refine z_1 ?_|refine z_2 ?_|refine s_o ?_|refine z_3 ?_|refine z_4 ?_|refine z_5 ?_|refine z_6 ?_|refine z_7 ?_|refine z_8 ?_|refine z_9 ?_|refine z_a ?_|refine z_b ?_|refine z_d ?_|refine z_e ?_|refine z_f ?_|refine z_g ?_|refine z_h ?_|refine z_i ?_|refine z_j ?_|refine s_a ?_|refine s_s ?_|refine s_n ?_|refine s_i ?_|refine s_f ?_|refine s_b ?_|refine s_d ?_|refine s_l1 ?_|refine s_l2 ?_|refine s_l3 ?_|refine s_l4 ?_|refine s_l5 ?_|refine s_l6 ?_|refine s_l7 ?_|refine s_l8 ?_|refine s_l9 ?_|refine s_g ?_|refine s_q ?_|refine s_e ?_|refine s_j ?_)
        exact ret1 rfl rfl ⟨by rw [hw0, ← el, q3, if_neg q4, e2]; simp [q1], hk⟩
end Go.E

/-
  Contracts: the greedy set of items, by the program and by the reference. Conditions: none.
-/
import Derived.Test.YtoemiahnilmdlaaRd
set_option linter.unusedVariables false
set_option linter.unusedSimpArgs false
namespace Go.E
open Go Go.RowKit Go.Proofs
attribute [local irreducible] W WL WD WE thenE inE retQ PureOp Keep Cell Cells Blk Sl Rows Own Src Fresh

/-- the pick among the first n items: the number, and its regret as a fraction -/
def pickSt (L : List Itm) (out : List Int) : Nat → Int × Int × Int
  | 0 => (-1, 0, 1)
  | n + 1 => if hasI out (gi L (n : Int)).id then pickSt L out n else
    if (pickSt L out n).1 < 0 ∨ (regret L (out ++ [(gi L (n : Int)).id])).1 * (pickSt L out n).2.2 < (pickSt L out n).2.1 * (regret L (out ++ [(gi L (n : Int)).id])).2.1 then
      ((gi L (n : Int)).id, (regret L (out ++ [(gi L (n : Int)).id])).1, (regret L (out ++ [(gi L (n : Int)).id])).2.1)
    else pickSt L out n
def greedyN (L : List Itm) : Nat → List Int
  | 0 => []
  | n + 1 => greedyN L n ++ [(pickSt L (greedyN L n) L.length).1]
theorem greedyN_len (L : List Itm) (n : Nat) : (greedyN L n).length = n := by
  induction n with
  | zero => rfl
  | succ n ih => simp [greedyN, ih]
def greedy (L : List Itm) (size : Int) : List Int := greedyN L (if areItems L then min size.toNat L.length else 0)
theorem greedy_stop {L : List Itm} {size : Int} {k : Nat} (hm : k ≤ L.length) (hpos : 0 < k → (k : Int) ≤ size ∧ areItems L = true) (hs : ¬ ((k : Int) < size) ∨ k = L.length ∨ areItems L = false) : greedyN L k = greedy L size := by
  rw [greedy]
  congr 1
  by_cases ha : areItems L = true
  · rw [if_pos ha]
    rcases Nat.eq_zero_or_pos k with h0 | h0
    · rcases hs with hs | hs | hs
      · omega
      · omega
      · rw [ha] at hs; simp at hs
    · have := hpos h0
      rcases hs with hs | hs | hs
      · omega
      · omega
      · rw [ha] at hs; simp at hs
  · rw [if_neg ha]
    rcases Nat.eq_zero_or_pos k with h0 | h0
    · exact h0
    · exact absurd (hpos h0).2 ha
theorem greedy_len (L : List Itm) (size : Int) : (greedy L size).length ≤ 16 := by
  rw [greedy, greedyN_len]
  split
  · rename_i h
    simp [areItems] at h; omega
  · omega
theorem pickSt_bd (L : List Itm) (out : List Int) (n : Nat) : (0 ≤ (pickSt L out n).2.1 ∧ (pickSt L out n).2.1 ≤ 81) ∧ (1 ≤ (pickSt L out n).2.2 ∧ (pickSt L out n).2.2 ≤ 81) := by
  induction n with
  | zero => simp [pickSt]
  | succ n ih =>
    have := regret_bd L (out ++ [(gi L (n : Int)).id])
    simp only [pickSt]
    split
    · exact ih
    · split
      · exact ⟨this.1, this.2.1⟩
      · exact ih

theorem copyInts_own {w : World} {v : Value} {xs : List Int} {fp : List Nat} (hx : Sl intR w v xs fp) (hn : xs.length ≤ 1048576) :
    Run Try.prog 113 [v] w (fun r w' => Keep w w' ∧ OwnF intR w' w.heap.size 3 r xs []) := by
  obtain ⟨A, n, c, rfl, hnx⟩ := hx.split
  refine Run_intro Try.func113 (by unfold CallOk; kernel_rfl) rfl Try.ntmps113 (Nat.le_of_ble_eq_true rfl) ?_
  simp only [penv, Nat.reduceAdd, Nat.zero_add]
  repeat refine zz ?_
  refine o_buildSlice rfl rfl rfl rfl rfl (by intro p hp; cases hp) (by omega) ?_
  intro b0 w1 hal
  have hk := hal.kp
  have ho1 : OwnF intR w1 w.heap.size 3 (.slice (some ⟨b0, 0, none⟩) 0 0) [] [] := OwnF.made hal.blk (by have := hal.b_eq; omega)
  replace hx := hx.keep hk
  obtain ⟨g, hsrc, _⟩ := hx.src
  obtain rfl := hsrc.nofp
  have hkz := hal.size
  repeat refine zz ?_
  refine o_appendF (R := intR) (M := w1.heap.size) (gi := []) rfl rfl rfl rfl rfl (by decide) ho1 hsrc hnx (Fresh.nil _ _) (fun b hb => by simp at hb) (fun b hb => (ho1.lt hb).2) (fun b hb => by simp at hb) (by simp only [List.length_nil]; omega) (by simp only [List.length_nil]; omega) (by omega) ?_
  intro v7 w7 ho7 hb7 hg7
  have hk7 : Keep w w7 := hk.grown hg7 (fun b hb => (ho1.lt hb).1)
  repeat refine zz ?_
  exact ret1 rfl rfl ⟨hk7, ho7⟩
theorem pickSt_succ (L : List Itm) (out : List Int) (n : Nat) : pickSt L out (n + 1) = if hasI out (gi L (n : Int)).id then pickSt L out n else
    if (pickSt L out n).1 < 0 ∨ (regret L (out ++ [(gi L (n : Int)).id])).1 * (pickSt L out n).2.2 < (pickSt L out n).2.1 * (regret L (out ++ [(gi L (n : Int)).id])).2.1 then
      ((gi L (n : Int)).id, (regret L (out ++ [(gi L (n : Int)).id])).1, (regret L (out ++ [(gi L (n : Int)).id])).2.1)
    else pickSt L out n := rfl
theorem greedyN_succ (L : List Itm) (n : Nat) : greedyN L (n + 1) = greedyN L n ++ [(pickSt L (greedyN L n) L.length).1] := rfl

attribute [local irreducible] regret pickSt greedyN
set_option maxHeartbeats 1000000 in
theorem spec_GreedySet_ok {w : World} {v : Value} {L : List Itm} {fp : List Nat} (hL : Sl itemR w v L fp) (size : Int) :
    Run Try.prog 36 [v, .int .i64 size] w (fun r w' => Keep w w' ∧ ∃ fp, Sl intR w' r (greedy L size) fp ∧ Fresh w.heap.size w' fp) := by
  obtain ⟨A, n, c, rfl, hnx⟩ := hL.split
  refine Run_intro Try.func36 (by unfold CallOk; kernel_rfl) rfl Try.ntmps36 (Nat.le_of_ble_eq_true rfl) ?_
  simp only [penv, Nat.reduceAdd, Nat.zero_add]
  repeat refine zz ?_
  refine o_buildSlice rfl rfl rfl rfl rfl (by intro p hp; cases hp) (by omega) ?_
  intro b0 w1 hal
  have hk := hal.kp
  have ho1 : OwnF intR w1 w.heap.size 3 (.slice (some ⟨b0, 0, none⟩) 0 0) [] [] := OwnF.made hal.blk (by have := hal.b_eq; omega)
  repeat refine zz ?_
  refine W_loop (S := Nat × Value) (fun s => [(0, .slice A n c), (1, .int .i64 size), (5, s.2)]) (fun s w' => Keep w w' ∧ s.1 ≤ n ∧ (0 < s.1 → (s.1 : Int) ≤ size ∧ areItems L = true) ∧ OwnF intR w' w.heap.size 3 s.2 (greedyN L s.1) []) (fun s => n - s.1) (0, _) ⟨rfl, rfl, rfl, trivial⟩ ⟨hk, by omega, fun h => absurd h (by omega), by unfold greedyN; exact ho1⟩ ?_
  rintro ⟨m, va⟩ w2 ⟨hk2, hm, hpos, ho2⟩
  dsimp only at hm hpos ho2 ⊢
  replace hL := hL.keep hk2
  obtain ⟨Ao, no, co, rfl, hno, _⟩ := ho2.split
  rw [greedyN_len] at hno
  subst hno
  have hgo := fun h => greedy_stop (L := L) (size := size) (k := no) (by omega) hpos h
  repeat refine zz ?_
  refine WL_part rfl rfl (fun h1 => ?_) (fun h1 => ?_)
  · simp at h1
    repeat refine zz ?_
    refine WL_part rfl rfl (fun h2 => ?_) (fun h2 => ?_)
    · simp at h2
      repeat refine zz ?_
      refine o_call rfl rfl rfl (spec_AreItems_ok hL) ?_
      rintro _ w3 ⟨rfl, hk3⟩
      replace hL := hL.keep hk3
      replace hk2 := hk2.keep hk3
      replace ho2 := ho2.keep hk3
      repeat refine zz ?_
      refine W_cond rfl (fun h3 => ?_) (fun h3 => ?_)
      · have hln : L.length ≤ 16 := by simp [areItems] at h3; exact h3.2
        repeat refine zz ?_
        refine W_loop (S := Nat) (fun k => [(0, .slice A n c), (1, .int .i64 size), (5, .slice Ao no co), (6, .int .i64 (pickSt L (greedyN L no) k).1), (7, .int .i64 (pickSt L (greedyN L no) k).2.1), (8, .int .i64 (pickSt L (greedyN L no) k).2.2), (9, .int .i64 (k : Int))]) (fun k w' => Keep w3 w' ∧ k ≤ n) (fun k => n - k) 0 ⟨rfl, rfl, rfl, find_int rfl (by unfold pickSt; rfl), find_int rfl (by unfold pickSt; rfl), find_int rfl (by unfold pickSt; rfl), rfl, trivial⟩ ⟨Keep.refl _, by omega⟩ ?_
        rintro k w4 ⟨hk4, hkn⟩
        replace hL := hL.keep hk4
        replace hk2 := hk2.keep hk4
        replace ho2 := ho2.keep hk4
        repeat refine zz ?_
        refine W_cond rfl (fun hc => ?_) (fun hc => ?_)
        · have hkl : k < n := by simp at hc; omega
          obtain ⟨hA, u, f, hcell, hu, _⟩ := item_get hL (i := (k : Int)) (by omega) (by omega)
          obtain ⟨fo, hso, hfo⟩ := ho2.sl (by decide)
          have hpb := pickSt_bd L (greedyN L no) k
          repeat refine zz ?_
          refine o_call rfl rfl rfl (l2Has_ok hso) ?_
          rintro _ _ ⟨rfl, rfl⟩
          repeat refine zz ?_
          refine W_cond rfl (fun hh => ?_) (fun hh => ?_)
          · repeat refine zz ?_
            have e : pickSt L (greedyN L no) (k + 1) = pickSt L (greedyN L no) k := by rw [pickSt_succ, if_pos hh]
            exact ⟨k + 1, ⟨rfl, rfl, rfl, find_int rfl (by rw [e]), find_int rfl (by rw [e]), find_int rfl (by rw [e]), rfl, trivial⟩, ⟨hk4, by omega⟩, by omega⟩
          · repeat refine zz ?_
            have hgl := greedyN_len L no
            have hrb := regret_bd L (greedyN L no ++ [(gi L (k : Int)).id])
            refine W_draw (Keep w4) (by kernel_rfl) ?_
            have hS : Keep w4 (World.drew w4) := Keep.drew w4
            have hS0 := hS.size_le
            first|refine d_o 0 ?_|refine d_a 0 ?_|refine d_s 0 ?_|refine d_n 0 ?_|refine d_i 0 ?_|refine d_f 0 ?_|refine d_b 0 ?_|refine d_d 0 ?_|refine d_l1 0 ?_|refine d_l2 0 ?_|refine d_l3 0 ?_|refine d_l4 0 ?_|refine d_l5 0 ?_|refine d_l6 0 ?_|refine d_l7 0 ?_|refine d_l8 0 ?_|refine d_l9 0 ?_|refine d_g 0 ?_|refine d_q 0 ?_|refine d_e 0 ?_|refine d_j 0 ?_
            first|refine d_o 2 ?_|refine d_a 2 ?_|refine d_s 2 ?_|refine d_n 2 ?_|refine d_i 2 ?_|refine d_f 2 ?_|refine d_b 2 ?_|refine d_d 2 ?_|refine d_l1 2 ?_|refine d_l2 2 ?_|refine d_l3 2 ?_|refine d_l4 2 ?_|refine d_l5 2 ?_|refine d_l6 2 ?_|refine d_l7 2 ?_|refine d_l8 2 ?_|refine d_l9 2 ?_|refine d_g 2 ?_|refine d_q 2 ?_|refine d_e 2 ?_|refine d_j 2 ?_
            first|refine d_o 4 ?_|refine d_a 4 ?_|refine d_s 4 ?_|refine d_n 4 ?_|refine d_i 4 ?_|refine d_f 4 ?_|refine d_b 4 ?_|refine d_d 4 ?_|refine d_l1 4 ?_|refine d_l2 4 ?_|refine d_l3 4 ?_|refine d_l4 4 ?_|refine d_l5 4 ?_|refine d_l6 4 ?_|refine d_l7 4 ?_|refine d_l8 4 ?_|refine d_l9 4 ?_|refine d_g 4 ?_|refine d_q 4 ?_|refine d_e 4 ?_|refine d_j 4 ?_
            first|refine d_o 5 ?_|refine d_a 5 ?_|refine d_s 5 ?_|refine d_n 5 ?_|refine d_i 5 ?_|refine d_f 5 ?_|refine d_b 5 ?_|refine d_d 5 ?_|refine d_l1 5 ?_|refine d_l2 5 ?_|refine d_l3 5 ?_|refine d_l4 5 ?_|refine d_l5 5 ?_|refine d_l6 5 ?_|refine d_l7 5 ?_|refine d_l8 5 ?_|refine d_l9 5 ?_|refine d_g 5 ?_|refine d_q 5 ?_|refine d_e 5 ?_|refine d_j 5 ?_
            first|refine d_o 6 ?_|refine d_a 6 ?_|refine d_s 6 ?_|refine d_n 6 ?_|refine d_i 6 ?_|refine d_f 6 ?_|refine d_b 6 ?_|refine d_d 6 ?_|refine d_l1 6 ?_|refine d_l2 6 ?_|refine d_l3 6 ?_|refine d_l4 6 ?_|refine d_l5 6 ?_|refine d_l6 6 ?_|refine d_l7 6 ?_|refine d_l8 6 ?_|refine d_l9 6 ?_|refine d_g 6 ?_|refine d_q 6 ?_|refine d_e 6 ?_|refine d_j 6 ?_
            first|refine d_o 7 ?_|refine d_a 7 ?_|refine d_s 7 ?_|refine d_n 7 ?_|refine d_i 7 ?_|refine d_f 7 ?_|refine d_b 7 ?_|refine d_d 7 ?_|refine d_l1 7 ?_|refine d_l2 7 ?_|refine d_l3 7 ?_|refine d_l4 7 ?_|refine d_l5 7 ?_|refine d_l6 7 ?_|refine d_l7 7 ?_|refine d_l8 7 ?_|refine d_l9 7 ?_|refine d_g 7 ?_|refine d_q 7 ?_|refine d_e 7 ?_|refine d_j 7 ?_
            first|refine d_o 8 ?_|refine d_a 8 ?_|refine d_s 8 ?_|refine d_n 8 ?_|refine d_i 8 ?_|refine d_f 8 ?_|refine d_b 8 ?_|refine d_d 8 ?_|refine d_l1 8 ?_|refine d_l2 8 ?_|refine d_l3 8 ?_|refine d_l4 8 ?_|refine d_l5 8 ?_|refine d_l6 8 ?_|refine d_l7 8 ?_|refine d_l8 8 ?_|refine d_l9 8 ?_|refine d_g 8 ?_|refine d_q 8 ?_|refine d_e 8 ?_|refine d_j 8 ?_
            refine WD_two 1 9  (by kernel_rfl) rfl rfl ?_ ?_
            · refine o_buildSlice rfl rfl rfl rfl rfl (by intro p hp; cases hp) (by omega) ?_
              intro b5 w5 hal5
              have ho5 : OwnF intR w5 w4.heap.size 3 (.slice (some ⟨b5, 0, none⟩) 0 0) [] [] := OwnF.made hal5.blk (by have := hal5.b_eq; omega)
              replace hS := hS.keep hal5.kp
              have hb5e := hal5.b_eq
              have hz5 := hal5.size
              have hS5 := hS.size_le
              try replace hb7 := hb7.keep hal5.kp
              refine WL_end ⟨hS, ?_⟩
              refine WD_two 3 9  (by kernel_rfl) rfl rfl ?_ ?_
              · obtain ⟨g5, hsrc5, _⟩ := (hso.keep hS).src
                obtain rfl := hsrc5.nofp
                refine o_appendF (R := intR) (M := _) (gi := []) rfl rfl rfl rfl rfl (by decide) ho5 hsrc5 (by omega) (Fresh.nil _ _) (fun b hb => by simp at hb) (fun b hb => (ho5.lt hb).2) (fun b hb => by simp at hb) (by simp only [List.length_nil]; omega) (by simp only [List.length_nil]; omega) (by omega) ?_
                intro v6 w6 ho6 hb6 hg6
                rw [List.nil_append] at ho6
                replace hS := hS.grown hg6 (fun b hb => (ho5.lt hb).1)
                have hS6 := hS.size_le
                try replace hb7 := hb7.grown hg6 (fun e => by simp [Value.ownBlock] at e; omega)
                refine WL_end ⟨hS, ?_⟩
                refine WD_one 9 (by kernel_rfl) rfl ?_
                refine o_buildSlice rfl rfl rfl rfl rfl (by simp [Value.cells]) (by omega) ?_
                intro b7 w7 hal7
                replace hS := hS.keep hal7.kp
                have hb7e := hal7.b_eq
                have hz7 := hal7.size
                have hS7 := hS.size_le
                have hb7 := hal7.blk
                try replace ho5 := ho5.keep hal7.kp
                try replace ho6 := ho6.keep hal7.kp
                refine WL_end ⟨hS, ?_⟩
                refine WD_one 10 (by kernel_rfl) rfl ?_
                refine o_appendF (R := intR) (M := _) (gi := []) rfl rfl rfl rfl rfl (by decide) ho6 (Blk.src (xs := [(gi L (k : Int)).id]) hb7 (Rows.ints _ _)) rfl (Fresh.nil _ _) (fun b hb => by simp at hb) (fun b hb => (ho6.lt hb).2) (fun b hb => by simp at hb) (by simp only [List.length_cons, List.length_nil]; omega) (by simp only [List.length_cons, List.length_nil]; omega) (by omega) ?_
                intro v8 w8 ho8 hb8 hg8
                replace hS := hS.grown hg8 (fun b hb => (ho6.lt hb).1)
                obtain ⟨f8, hs8, hf8⟩ := ho8.sl (by decide)
                refine WL_end ⟨hS, ?_⟩
                refine WD_one 11 (by kernel_rfl) rfl ?_
                refine o_call rfl rfl rfl (spec_RegretOf_ok (hL.keep hS) hs8) ?_
                rintro _ w9 ⟨hk9, u9, f9, rfl, hs9, hf9⟩
                replace hS := hS.keep hk9
                refine WL_end ⟨hS, ?_⟩
                first|refine d_o 12 ?_|refine d_a 12 ?_|refine d_s 12 ?_|refine d_n 12 ?_|refine d_i 12 ?_|refine d_f 12 ?_|refine d_b 12 ?_|refine d_d 12 ?_|refine d_l1 12 ?_|refine d_l2 12 ?_|refine d_l3 12 ?_|refine d_l4 12 ?_|refine d_l5 12 ?_|refine d_l6 12 ?_|refine d_l7 12 ?_|refine d_l8 12 ?_|refine d_l9 12 ?_|refine d_g 12 ?_|refine d_q 12 ?_|refine d_e 12 ?_|refine d_j 12 ?_
                first|refine d_o 13 ?_|refine d_a 13 ?_|refine d_s 13 ?_|refine d_n 13 ?_|refine d_i 13 ?_|refine d_f 13 ?_|refine d_b 13 ?_|refine d_d 13 ?_|refine d_l1 13 ?_|refine d_l2 13 ?_|refine d_l3 13 ?_|refine d_l4 13 ?_|refine d_l5 13 ?_|refine d_l6 13 ?_|refine d_l7 13 ?_|refine d_l8 13 ?_|refine d_l9 13 ?_|refine d_g 13 ?_|refine d_q 13 ?_|refine d_e 13 ?_|refine d_j 13 ?_
                first|refine d_o 14 ?_|refine d_a 14 ?_|refine d_s 14 ?_|refine d_n 14 ?_|refine d_i 14 ?_|refine d_f 14 ?_|refine d_b 14 ?_|refine d_d 14 ?_|refine d_l1 14 ?_|refine d_l2 14 ?_|refine d_l3 14 ?_|refine d_l4 14 ?_|refine d_l5 14 ?_|refine d_l6 14 ?_|refine d_l7 14 ?_|refine d_l8 14 ?_|refine d_l9 14 ?_|refine d_g 14 ?_|refine d_q 14 ?_|refine d_e 14 ?_|refine d_j 14 ?_
                first|refine d_o 15 ?_|refine d_a 15 ?_|refine d_s 15 ?_|refine d_n 15 ?_|refine d_i 15 ?_|refine d_f 15 ?_|refine d_b 15 ?_|refine d_d 15 ?_|refine d_l1 15 ?_|refine d_l2 15 ?_|refine d_l3 15 ?_|refine d_l4 15 ?_|refine d_l5 15 ?_|refine d_l6 15 ?_|refine d_l7 15 ?_|refine d_l8 15 ?_|refine d_l9 15 ?_|refine d_g 15 ?_|refine d_q 15 ?_|refine d_e 15 ?_|refine d_j 15 ?_
                first|refine d_o 16 ?_|refine d_a 16 ?_|refine d_s 16 ?_|refine d_n 16 ?_|refine d_i 16 ?_|refine d_f 16 ?_|refine d_b 16 ?_|refine d_d 16 ?_|refine d_l1 16 ?_|refine d_l2 16 ?_|refine d_l3 16 ?_|refine d_l4 16 ?_|refine d_l5 16 ?_|refine d_l6 16 ?_|refine d_l7 16 ?_|refine d_l8 16 ?_|refine d_l9 16 ?_|refine d_g 16 ?_|refine d_q 16 ?_|refine d_e 16 ?_|refine d_j 16 ?_
                first|refine d_o 17 ?_|refine d_a 17 ?_|refine d_s 17 ?_|refine d_n 17 ?_|refine d_i 17 ?_|refine d_f 17 ?_|refine d_b 17 ?_|refine d_d 17 ?_|refine d_l1 17 ?_|refine d_l2 17 ?_|refine d_l3 17 ?_|refine d_l4 17 ?_|refine d_l5 17 ?_|refine d_l6 17 ?_|refine d_l7 17 ?_|refine d_l8 17 ?_|refine d_l9 17 ?_|refine d_g 17 ?_|refine d_q 17 ?_|refine d_e 17 ?_|refine d_j 17 ?_
                first|refine d_o 18 ?_|refine d_a 18 ?_|refine d_s 18 ?_|refine d_n 18 ?_|refine d_i 18 ?_|refine d_f 18 ?_|refine d_b 18 ?_|refine d_d 18 ?_|refine d_l1 18 ?_|refine d_l2 18 ?_|refine d_l3 18 ?_|refine d_l4 18 ?_|refine d_l5 18 ?_|refine d_l6 18 ?_|refine d_l7 18 ?_|refine d_l8 18 ?_|refine d_l9 18 ?_|refine d_g 18 ?_|refine d_q 18 ?_|refine d_e 18 ?_|refine d_j 18 ?_
                refine WD_done (by kernel_rfl) ?_
                replace hcell := hcell.keep hS
                replace hk4 := hk4.keep hS
                repeat refine zz ?_
                refine WL_part rfl rfl (fun hz => ?_) (fun hz => ?_)
                · simp at hz
                  repeat refine zz ?_
                  have e : pickSt L (greedyN L no) (k + 1) = ((gi L (k : Int)).id, (regret L (greedyN L no ++ [(gi L (k : Int)).id])).1, (regret L (greedyN L no ++ [(gi L (k : Int)).id])).2.1) := by rw [pickSt_succ, if_neg (by simp [hh]), if_pos (.inl hz)]
                  exact ⟨k + 1, ⟨rfl, rfl, rfl, find_int rfl (by rw [e]), find_int rfl (by rw [e]), find_int rfl (by rw [e]), rfl, trivial⟩, ⟨hk4, by omega⟩, by omega⟩
                · simp at hz
                  repeat refine zz ?_
                  have hm1 := mul_pos_bd (a := (regret L (greedyN L no ++ [(gi L (k : Int)).id])).1) (b := (pickSt L (greedyN L no) k).2.2) (by omega) (by omega)
                  have hm2 := mul_pos_bd (a := (pickSt L (greedyN L no) k).2.1) (b := (regret L (greedyN L no ++ [(gi L (k : Int)).id])).2.1) (by omega) (by omega)
                  refine WL_pure rfl rfl (o_mul rfl rfl (by omega)) ?_
                  repeat refine zz ?_
                  refine WL_pure rfl rfl (o_mul rfl rfl (by omega)) ?_
                  repeat refine zz ?_
                  refine W_cond rfl (fun hd => ?_) (fun hd => ?_)
                  · simp at hd
                    repeat refine zz ?_
                    have e : pickSt L (greedyN L no) (k + 1) = ((gi L (k : Int)).id, (regret L (greedyN L no ++ [(gi L (k : Int)).id])).1, (regret L (greedyN L no ++ [(gi L (k : Int)).id])).2.1) := by rw [pickSt_succ, if_neg (by simp [hh]), if_pos (.inr hd)]
                    exact ⟨k + 1, ⟨rfl, rfl, rfl, find_int rfl (by rw [e]), find_int rfl (by rw [e]), find_int rfl (by rw [e]), rfl, trivial⟩, ⟨hk4, by omega⟩, by omega⟩
                  · simp at hd
                    repeat refine zz ?_
                    have e : pickSt L (greedyN L no) (k + 1) = pickSt L (greedyN L no) k := by rw [pickSt_succ, if_neg (by simp [hh]), if_neg (by omega)]
                    exact ⟨k + 1, ⟨rfl, rfl, rfl, find_int rfl (by rw [e]), find_int rfl (by rw [e]), find_int rfl (by rw [e]), rfl, trivial⟩, ⟨hk4, by omega⟩, by omega⟩
              · refine o_buildSlice rfl rfl rfl rfl rfl (by simp [Value.cells]) (by omega) ?_
                intro b7 w7 hal7
                replace hS := hS.keep hal7.kp
                have hb7e := hal7.b_eq
                have hz7 := hal7.size
                have hS7 := hS.size_le
                have hb7 := hal7.blk
                try replace ho5 := ho5.keep hal7.kp
                try replace ho6 := ho6.keep hal7.kp
                refine WL_end ⟨hS, ?_⟩
                refine WD_one 3 (by kernel_rfl) rfl ?_
                obtain ⟨g5, hsrc5, _⟩ := (hso.keep hS).src
                obtain rfl := hsrc5.nofp
                refine o_appendF (R := intR) (M := _) (gi := []) rfl rfl rfl rfl rfl (by decide) ho5 hsrc5 (by omega) (Fresh.nil _ _) (fun b hb => by simp at hb) (fun b hb => (ho5.lt hb).2) (fun b hb => by simp at hb) (by simp only [List.length_nil]; omega) (by simp only [List.length_nil]; omega) (by omega) ?_
                intro v6 w6 ho6 hb6 hg6
                rw [List.nil_append] at ho6
                replace hS := hS.grown hg6 (fun b hb => (ho5.lt hb).1)
                have hS6 := hS.size_le
                try replace hb7 := hb7.grown hg6 (fun e => by simp [Value.ownBlock] at e; omega)
                refine WL_end ⟨hS, ?_⟩
                refine WD_one 10 (by kernel_rfl) rfl ?_
                refine o_appendF (R := intR) (M := _) (gi := []) rfl rfl rfl rfl rfl (by decide) ho6 (Blk.src (xs := [(gi L (k : Int)).id]) hb7 (Rows.ints _ _)) rfl (Fresh.nil _ _) (fun b hb => by simp at hb) (fun b hb => (ho6.lt hb).2) (fun b hb => by simp at hb) (by simp only [List.length_cons, List.length_nil]; omega) (by simp only [List.length_cons, List.length_nil]; omega) (by omega) ?_
                intro v8 w8 ho8 hb8 hg8
                replace hS := hS.grown hg8 (fun b hb => (ho6.lt hb).1)
                obtain ⟨f8, hs8, hf8⟩ := ho8.sl (by decide)
                refine WL_end ⟨hS, ?_⟩
                refine WD_one 11 (by kernel_rfl) rfl ?_
                refine o_call rfl rfl rfl (spec_RegretOf_ok (hL.keep hS) hs8) ?_
                rintro _ w9 ⟨hk9, u9, f9, rfl, hs9, hf9⟩
                replace hS := hS.keep hk9
                refine WL_end ⟨hS, ?_⟩
                first|refine d_o 12 ?_|refine d_a 12 ?_|refine d_s 12 ?_|refine d_n 12 ?_|refine d_i 12 ?_|refine d_f 12 ?_|refine d_b 12 ?_|refine d_d 12 ?_|refine d_l1 12 ?_|refine d_l2 12 ?_|refine d_l3 12 ?_|refine d_l4 12 ?_|refine d_l5 12 ?_|refine d_l6 12 ?_|refine d_l7 12 ?_|refine d_l8 12 ?_|refine d_l9 12 ?_|refine d_g 12 ?_|refine d_q 12 ?_|refine d_e 12 ?_|refine d_j 12 ?_
                first|refine d_o 13 ?_|refine d_a 13 ?_|refine d_s 13 ?_|refine d_n 13 ?_|refine d_i 13 ?_|refine d_f 13 ?_|refine d_b 13 ?_|refine d_d 13 ?_|refine d_l1 13 ?_|refine d_l2 13 ?_|refine d_l3 13 ?_|refine d_l4 13 ?_|refine d_l5 13 ?_|refine d_l6 13 ?_|refine d_l7 13 ?_|refine d_l8 13 ?_|refine d_l9 13 ?_|refine d_g 13 ?_|refine d_q 13 ?_|refine d_e 13 ?_|refine d_j 13 ?_
                first|refine d_o 14 ?_|refine d_a 14 ?_|refine d_s 14 ?_|refine d_n 14 ?_|refine d_i 14 ?_|refine d_f 14 ?_|refine d_b 14 ?_|refine d_d 14 ?_|refine d_l1 14 ?_|refine d_l2 14 ?_|refine d_l3 14 ?_|refine d_l4 14 ?_|refine d_l5 14 ?_|refine d_l6 14 ?_|refine d_l7 14 ?_|refine d_l8 14 ?_|refine d_l9 14 ?_|refine d_g 14 ?_|refine d_q 14 ?_|refine d_e 14 ?_|refine d_j 14 ?_
                first|refine d_o 15 ?_|refine d_a 15 ?_|refine d_s 15 ?_|refine d_n 15 ?_|refine d_i 15 ?_|refine d_f 15 ?_|refine d_b 15 ?_|refine d_d 15 ?_|refine d_l1 15 ?_|refine d_l2 15 ?_|refine d_l3 15 ?_|refine d_l4 15 ?_|refine d_l5 15 ?_|refine d_l6 15 ?_|refine d_l7 15 ?_|refine d_l8 15 ?_|refine d_l9 15 ?_|refine d_g 15 ?_|refine d_q 15 ?_|refine d_e 15 ?_|refine d_j 15 ?_
                first|refine d_o 16 ?_|refine d_a 16 ?_|refine d_s 16 ?_|refine d_n 16 ?_|refine d_i 16 ?_|refine d_f 16 ?_|refine d_b 16 ?_|refine d_d 16 ?_|refine d_l1 16 ?_|refine d_l2 16 ?_|refine d_l3 16 ?_|refine d_l4 16 ?_|refine d_l5 16 ?_|refine d_l6 16 ?_|refine d_l7 16 ?_|refine d_l8 16 ?_|refine d_l9 16 ?_|refine d_g 16 ?_|refine d_q 16 ?_|refine d_e 16 ?_|refine d_j 16 ?_
                first|refine d_o 17 ?_|refine d_a 17 ?_|refine d_s 17 ?_|refine d_n 17 ?_|refine d_i 17 ?_|refine d_f 17 ?_|refine d_b 17 ?_|refine d_d 17 ?_|refine d_l1 17 ?_|refine d_l2 17 ?_|refine d_l3 17 ?_|refine d_l4 17 ?_|refine d_l5 17 ?_|refine d_l6 17 ?_|refine d_l7 17 ?_|refine d_l8 17 ?_|refine d_l9 17 ?_|refine d_g 17 ?_|refine d_q 17 ?_|refine d_e 17 ?_|refine d_j 17 ?_
                first|refine d_o 18 ?_|refine d_a 18 ?_|refine d_s 18 ?_|refine d_n 18 ?_|refine d_i 18 ?_|refine d_f 18 ?_|refine d_b 18 ?_|refine d_d 18 ?_|refine d_l1 18 ?_|refine d_l2 18 ?_|refine d_l3 18 ?_|refine d_l4 18 ?_|refine d_l5 18 ?_|refine d_l6 18 ?_|refine d_l7 18 ?_|refine d_l8 18 ?_|refine d_l9 18 ?_|refine d_g 18 ?_|refine d_q 18 ?_|refine d_e 18 ?_|refine d_j 18 ?_
                refine WD_done (by kernel_rfl) ?_
                replace hcell := hcell.keep hS
                replace hk4 := hk4.keep hS
                repeat refine zz ?_
                refine WL_part rfl rfl (fun hz => ?_) (fun hz => ?_)
                · simp at hz
                  repeat refine zz ?_
                  have e : pickSt L (greedyN L no) (k + 1) = ((gi L (k : Int)).id, (regret L (greedyN L no ++ [(gi L (k : Int)).id])).1, (regret L (greedyN L no ++ [(gi L (k : Int)).id])).2.1) := by rw [pickSt_succ, if_neg (by simp [hh]), if_pos (.inl hz)]
                  exact ⟨k + 1, ⟨rfl, rfl, rfl, find_int rfl (by rw [e]), find_int rfl (by rw [e]), find_int rfl (by rw [e]), rfl, trivial⟩, ⟨hk4, by omega⟩, by omega⟩
                · simp at hz
                  repeat refine zz ?_
                  have hm1 := mul_pos_bd (a := (regret L (greedyN L no ++ [(gi L (k : Int)).id])).1) (b := (pickSt L (greedyN L no) k).2.2) (by omega) (by omega)
                  have hm2 := mul_pos_bd (a := (pickSt L (greedyN L no) k).2.1) (b := (regret L (greedyN L no ++ [(gi L (k : Int)).id])).2.1) (by omega) (by omega)
                  refine WL_pure rfl rfl (o_mul rfl rfl (by omega)) ?_
                  repeat refine zz ?_
                  refine WL_pure rfl rfl (o_mul rfl rfl (by omega)) ?_
                  repeat refine zz ?_
                  refine W_cond rfl (fun hd => ?_) (fun hd => ?_)
                  · simp at hd
                    repeat refine zz ?_
                    have e : pickSt L (greedyN L no) (k + 1) = ((gi L (k : Int)).id, (regret L (greedyN L no ++ [(gi L (k : Int)).id])).1, (regret L (greedyN L no ++ [(gi L (k : Int)).id])).2.1) := by rw [pickSt_succ, if_neg (by simp [hh]), if_pos (.inr hd)]
                    exact ⟨k + 1, ⟨rfl, rfl, rfl, find_int rfl (by rw [e]), find_int rfl (by rw [e]), find_int rfl (by rw [e]), rfl, trivial⟩, ⟨hk4, by omega⟩, by omega⟩
                  · simp at hd
                    repeat refine zz ?_
                    have e : pickSt L (greedyN L no) (k + 1) = pickSt L (greedyN L no) k := by rw [pickSt_succ, if_neg (by simp [hh]), if_neg (by omega)]
                    exact ⟨k + 1, ⟨rfl, rfl, rfl, find_int rfl (by rw [e]), find_int rfl (by rw [e]), find_int rfl (by rw [e]), rfl, trivial⟩, ⟨hk4, by omega⟩, by omega⟩
            · refine o_buildSlice rfl rfl rfl rfl rfl (by simp [Value.cells]) (by omega) ?_
              intro b7 w7 hal7
              replace hS := hS.keep hal7.kp
              have hb7e := hal7.b_eq
              have hz7 := hal7.size
              have hS7 := hS.size_le
              have hb7 := hal7.blk
              try replace ho5 := ho5.keep hal7.kp
              try replace ho6 := ho6.keep hal7.kp
              refine WL_end ⟨hS, ?_⟩
              refine WD_one 1 (by kernel_rfl) rfl ?_
              refine o_buildSlice rfl rfl rfl rfl rfl (by intro p hp; cases hp) (by omega) ?_
              intro b5 w5 hal5
              have ho5 : OwnF intR w5 w4.heap.size 3 (.slice (some ⟨b5, 0, none⟩) 0 0) [] [] := OwnF.made hal5.blk (by have := hal5.b_eq; omega)
              replace hS := hS.keep hal5.kp
              have hb5e := hal5.b_eq
              have hz5 := hal5.size
              have hS5 := hS.size_le
              try replace hb7 := hb7.keep hal5.kp
              refine WL_end ⟨hS, ?_⟩
              refine WD_one 3 (by kernel_rfl) rfl ?_
              obtain ⟨g5, hsrc5, _⟩ := (hso.keep hS).src
              obtain rfl := hsrc5.nofp
              refine o_appendF (R := intR) (M := _) (gi := []) rfl rfl rfl rfl rfl (by decide) ho5 hsrc5 (by omega) (Fresh.nil _ _) (fun b hb => by simp at hb) (fun b hb => (ho5.lt hb).2) (fun b hb => by simp at hb) (by simp only [List.length_nil]; omega) (by simp only [List.length_nil]; omega) (by omega) ?_
              intro v6 w6 ho6 hb6 hg6
              rw [List.nil_append] at ho6
              replace hS := hS.grown hg6 (fun b hb => (ho5.lt hb).1)
              have hS6 := hS.size_le
              try replace hb7 := hb7.grown hg6 (fun e => by simp [Value.ownBlock] at e; omega)
              refine WL_end ⟨hS, ?_⟩
              refine WD_one 10 (by kernel_rfl) rfl ?_
              refine o_appendF (R := intR) (M := _) (gi := []) rfl rfl rfl rfl rfl (by decide) ho6 (Blk.src (xs := [(gi L (k : Int)).id]) hb7 (Rows.ints _ _)) rfl (Fresh.nil _ _) (fun b hb => by simp at hb) (fun b hb => (ho6.lt hb).2) (fun b hb => by simp at hb) (by simp only [List.length_cons, List.length_nil]; omega) (by simp only [List.length_cons, List.length_nil]; omega) (by omega) ?_
              intro v8 w8 ho8 hb8 hg8
              replace hS := hS.grown hg8 (fun b hb => (ho6.lt hb).1)
              obtain ⟨f8, hs8, hf8⟩ := ho8.sl (by decide)
              refine WL_end ⟨hS, ?_⟩
              refine WD_one 11 (by kernel_rfl) rfl ?_
              refine o_call rfl rfl rfl (spec_RegretOf_ok (hL.keep hS) hs8) ?_
              rintro _ w9 ⟨hk9, u9, f9, rfl, hs9, hf9⟩
              replace hS := hS.keep hk9
              refine WL_end ⟨hS, ?_⟩
              first|refine d_o 12 ?_|refine d_a 12 ?_|refine d_s 12 ?_|refine d_n 12 ?_|refine d_i 12 ?_|refine d_f 12 ?_|refine d_b 12 ?_|refine d_d 12 ?_|refine d_l1 12 ?_|refine d_l2 12 ?_|refine d_l3 12 ?_|refine d_l4 12 ?_|refine d_l5 12 ?_|refine d_l6 12 ?_|refine d_l7 12 ?_|refine d_l8 12 ?_|refine d_l9 12 ?_|refine d_g 12 ?_|refine d_q 12 ?_|refine d_e 12 ?_|refine d_j 12 ?_
              first|refine d_o 13 ?_|refine d_a 13 ?_|refine d_s 13 ?_|refine d_n 13 ?_|refine d_i 13 ?_|refine d_f 13 ?_|refine d_b 13 ?_|refine d_d 13 ?_|refine d_l1 13 ?_|refine d_l2 13 ?_|refine d_l3 13 ?_|refine d_l4 13 ?_|refine d_l5 13 ?_|refine d_l6 13 ?_|refine d_l7 13 ?_|refine d_l8 13 ?_|refine d_l9 13 ?_|refine d_g 13 ?_|refine d_q 13 ?_|refine d_e 13 ?_|refine d_j 13 ?_
              first|refine d_o 14 ?_|refine d_a 14 ?_|refine d_s 14 ?_|refine d_n 14 ?_|refine d_i 14 ?_|refine d_f 14 ?_|refine d_b 14 ?_|refine d_d 14 ?_|refine d_l1 14 ?_|refine d_l2 14 ?_|refine d_l3 14 ?_|refine d_l4 14 ?_|refine d_l5 14 ?_|refine d_l6 14 ?_|refine d_l7 14 ?_|refine d_l8 14 ?_|refine d_l9 14 ?_|refine d_g 14 ?_|refine d_q 14 ?_|refine d_e 14 ?_|refine d_j 14 ?_
              first|refine d_o 15 ?_|refine d_a 15 ?_|refine d_s 15 ?_|refine d_n 15 ?_|refine d_i 15 ?_|refine d_f 15 ?_|refine d_b 15 ?_|refine d_d 15 ?_|refine d_l1 15 ?_|refine d_l2 15 ?_|refine d_l3 15 ?_|refine d_l4 15 ?_|refine d_l5 15 ?_|refine d_l6 15 ?_|refine d_l7 15 ?_|refine d_l8 15 ?_|refine d_l9 15 ?_|refine d_g 15 ?_|refine d_q 15 ?_|refine d_e 15 ?_|refine d_j 15 ?_
              first|refine d_o 16 ?_|refine d_a 16 ?_|refine d_s 16 ?_|refine d_n 16 ?_|refine d_i 16 ?_|refine d_f 16 ?_|refine d_b 16 ?_|refine d_d 16 ?_|refine d_l1 16 ?_|refine d_l2 16 ?_|refine d_l3 16 ?_|refine d_l4 16 ?_|refine d_l5 16 ?_|refine d_l6 16 ?_|refine d_l7 16 ?_|refine d_l8 16 ?_|refine d_l9 16 ?_|refine d_g 16 ?_|refine d_q 16 ?_|refine d_e 16 ?_|refine d_j 16 ?_
              first|refine d_o 17 ?_|refine d_a 17 ?_|refine d_s 17 ?_|refine d_n 17 ?_|refine d_i 17 ?_|refine d_f 17 ?_|refine d_b 17 ?_|refine d_d 17 ?_|refine d_l1 17 ?_|refine d_l2 17 ?_|refine d_l3 17 ?_|refine d_l4 17 ?_|refine d_l5 17 ?_|refine d_l6 17 ?_|refine d_l7 17 ?_|refine d_l8 17 ?_|refine d_l9 17 ?_|refine d_g 17 ?_|refine d_q 17 ?_|refine d_e 17 ?_|refine d_j 17 ?_
              first|refine d_o 18 ?_|refine d_a 18 ?_|refine d_s 18 ?_|refine d_n 18 ?_|refine d_i 18 ?_|refine d_f 18 ?_|refine d_b 18 ?_|refine d_d 18 ?_|refine d_l1 18 ?_|refine d_l2 18 ?_|refine d_l3 18 ?_|refine d_l4 18 ?_|refine d_l5 18 ?_|refine d_l6 18 ?_|refine d_l7 18 ?_|refine d_l8 18 ?_|refine d_l9 18 ?_|refine d_g 18 ?_|refine d_q 18 ?_|refine d_e 18 ?_|refine d_j 18 ?_
              refine WD_done (by kernel_rfl) ?_
              replace hcell := hcell.keep hS
              replace hk4 := hk4.keep hS
              repeat refine zz ?_
              refine WL_part rfl rfl (fun hz => ?_) (fun hz => ?_)
              · simp at hz
                repeat refine zz ?_
                have e : pickSt L (greedyN L no) (k + 1) = ((gi L (k : Int)).id, (regret L (greedyN L no ++ [(gi L (k : Int)).id])).1, (regret L (greedyN L no ++ [(gi L (k : Int)).id])).2.1) := by rw [pickSt_succ, if_neg (by simp [hh]), if_pos (.inl hz)]
                exact ⟨k + 1, ⟨rfl, rfl, rfl, find_int rfl (by rw [e]), find_int rfl (by rw [e]), find_int rfl (by rw [e]), rfl, trivial⟩, ⟨hk4, by omega⟩, by omega⟩
              · simp at hz
                repeat refine zz ?_
                have hm1 := mul_pos_bd (a := (regret L (greedyN L no ++ [(gi L (k : Int)).id])).1) (b := (pickSt L (greedyN L no) k).2.2) (by omega) (by omega)
                have hm2 := mul_pos_bd (a := (pickSt L (greedyN L no) k).2.1) (b := (regret L (greedyN L no ++ [(gi L (k : Int)).id])).2.1) (by omega) (by omega)
                refine WL_pure rfl rfl (o_mul rfl rfl (by omega)) ?_
                repeat refine zz ?_
                refine WL_pure rfl rfl (o_mul rfl rfl (by omega)) ?_
                repeat refine zz ?_
                refine W_cond rfl (fun hd => ?_) (fun hd => ?_)
                · simp at hd
                  repeat refine zz ?_
                  have e : pickSt L (greedyN L no) (k + 1) = ((gi L (k : Int)).id, (regret L (greedyN L no ++ [(gi L (k : Int)).id])).1, (regret L (greedyN L no ++ [(gi L (k : Int)).id])).2.1) := by rw [pickSt_succ, if_neg (by simp [hh]), if_pos (.inr hd)]
                  exact ⟨k + 1, ⟨rfl, rfl, rfl, find_int rfl (by rw [e]), find_int rfl (by rw [e]), find_int rfl (by rw [e]), rfl, trivial⟩, ⟨hk4, by omega⟩, by omega⟩
                · simp at hd
                  repeat refine zz ?_
                  have e : pickSt L (greedyN L no) (k + 1) = pickSt L (greedyN L no) k := by rw [pickSt_succ, if_neg (by simp [hh]), if_neg (by omega)]
                  exact ⟨k + 1, ⟨rfl, rfl, rfl, find_int rfl (by rw [e]), find_int rfl (by rw [e]), find_int rfl (by rw [e]), rfl, trivial⟩, ⟨hk4, by omega⟩, by omega⟩
        · simp at hc
          obtain rfl : k = n := by omega
          repeat refine zz ?_
          refine o_buildSlice rfl rfl rfl rfl rfl (by simp [Value.cells]) (by omega) ?_
          intro b5 w5 hal5
          have hkb := hk2.keep hal5.kp
          have hob := ho2.keep hal5.kp
          have hkz := hk2.size_le
          have hz5 := hal5.size
          have hgl := greedyN_len L no
          repeat refine zz ?_
          refine o_appendF (R := intR) (M := w4.heap.size) (gi := []) rfl rfl rfl rfl rfl (by decide) hob (Blk.src (xs := [(pickSt L (greedyN L no) k).1]) hal5.blk (Rows.ints _ _)) rfl (Fresh.nil _ _) (fun b hb => by simp at hb) (fun b hb => (ho2.lt hb).2) (fun b hb => by simp at hb) (by simp only [List.length_cons, List.length_nil]; omega) (by simp only [List.length_cons, List.length_nil]; omega) (by omega) ?_
          intro v6 w6 ho6 hb6 hg6
          have hk6 : Keep w w6 := hkb.grown hg6 (fun b hb => (hob.lt hb).1)
          repeat refine zz ?_
          have e : greedyN L (no + 1) = greedyN L no ++ [(pickSt L (greedyN L no) k).1] := by rw [hnx]; exact greedyN_succ _ _
          exact ⟨(no + 1, v6), ⟨rfl, rfl, rfl, trivial⟩, ⟨hk6, by dsimp only; omega, fun _ => ⟨by dsimp only; omega, h3⟩, by dsimp only; rw [e]; exact ho6⟩, by dsimp only; omega⟩
      · repeat refine zz ?_
        obtain ⟨fp, hs, hf⟩ := ho2.sl (by decide)
        exact ret1 rfl rfl ⟨hk2, fp, by rw [← hgo (.inr (.inr h3))]; exact hs, hf⟩
    · simp at h2
      repeat refine zz ?_
      obtain ⟨fp, hs, hf⟩ := ho2.sl (by decide)
      exact ret1 rfl rfl ⟨hk2, fp, by rw [← hgo (.inr (.inl (by omega)))]; exact hs, hf⟩
  · simp at h1
    repeat refine zz ?_
    obtain ⟨fp, hs, hf⟩ := ho2.sl (by decide)
    exact ret1 rfl rfl ⟨hk2, fp, by rw [← hgo (.inl (by omega))]; exact hs, hf⟩
end Go.E

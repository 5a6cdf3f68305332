/-
  Contracts: scores. Conditions: as stated.
-/
import Derived.Test.YtoemiahnilmdlaaY0
set_option linter.unusedVariables false
set_option linter.unusedSimpArgs false
namespace Go.E
open Go Go.RowKit Go.Proofs
attribute [local irreducible] W WL WD WE thenE inE retQ PureOp Keep Cell Cells Blk Sl Rows Own Src Fresh
attribute [local irreducible] cmpE isExpr areItems pickN scoreN rankL relL bestItems beatsAll bordN apprN poll fine

set_option maxHeartbeats 1000000 in
theorem spec_BordaScores_ok {w : World} {v u : Value} {L : List Itm} {g : List (List Nod)} {fp gp : List Nat} (hL : Sl itemR w v L fp) (he : Sl (slR nodeR) w u g gp) (hn : g.length + totNS g ≤ 1048576) :
    Run Try.prog 90 [v, u] w (fun r w' => Keep w w' ∧ ∃ fp, Sl intR w' r (scoreIf (poll L g) L (fun i => bordN L g i g.length)) fp ∧ Fresh w.heap.size w' fp) := by
  obtain ⟨A, n, c, rfl, hnx⟩ := hL.split
  obtain ⟨Ag, m, cg, rfl, hmg⟩ := he.split
  refine Run_intro Try.func90 (by unfold CallOk; kernel_rfl) rfl Try.ntmps90 (Nat.le_of_ble_eq_true rfl) ?_
  simp only [penv, Nat.reduceAdd, Nat.zero_add]
  repeat refine zz ?_
  refine o_buildSlice rfl rfl rfl rfl rfl (by intro p hp; cases hp) (by omega) ?_
  intro b0 w1 hal
  have ho : OwnF intR w1 w.heap.size 3 (.slice (some ⟨b0, 0, none⟩) 0 0) [] [] := OwnF.made hal.blk (by have := hal.b_eq; omega)
  have hk := hal.kp
  repeat refine zz ?_
  refine W_loop (S := Nat × Value) (fun s => [(0, .slice A n c), (1, .slice Ag m cg), (5, s.2), (6, .int .i64 (s.1 : Int))]) (fun s w' => Keep w w' ∧ s.1 ≤ n ∧ (0 < s.1 → poll L g = true) ∧ OwnF intR w' w.heap.size 3 s.2 (scoreN (fun i => bordN L g i g.length) s.1) []) (fun s => n - s.1) (0, _) ⟨rfl, rfl, rfl, rfl, trivial⟩ ⟨hk, Nat.zero_le _, fun h => absurd h (by simp), by unfold scoreN; exact ho⟩ ?_
  clear ho hal hk
  rintro ⟨k, va⟩ wa ⟨hka, hkn, hpos, hoa⟩
  dsimp only at hkn hpos hoa ⊢
  have hpl := scoreN_len (fun i => bordN L g i g.length) k
  repeat refine zz ?_
  refine WL_part rfl rfl (fun hc => ?_) (fun hc => ?_)
  · have hkl : k < n := by simp at hc; omega
    repeat refine zz ?_
    refine o_call rfl rfl rfl (l12Fine_ok (hL.keep hka) (he.keep hka) hn) ?_
    rintro _ w2 ⟨rfl, hk2⟩
    replace hka := hka.keep hk2
    replace hoa := hoa.keep hk2
    repeat refine zz ?_
    refine W_cond rfl (fun h => ?_) (fun h => ?_)
    · have hok := poll_ok h
      have hit := hok.1
      have hln := hok.2.1
      repeat refine zz ?_
      refine W_loop (S := Nat) (fun j => [(0, .slice A n c), (1, .slice Ag m cg), (5, va), (6, .int .i64 (k : Int)), (7, .int .i64 (bordN L g k j)), (8, .int .i64 (j : Int))]) (fun j w' => Keep w2 w' ∧ j ≤ m) (fun j => m - j) 0 ⟨rfl, rfl, rfl, rfl, find_int rfl (by unfold bordN; rfl), rfl, trivial⟩ ⟨Keep.refl _, Nat.zero_le _⟩ ?_
      rintro j wb ⟨hkb, hj⟩
      have hkc := hka.keep hkb
      have hLb := hL.keep hkc
      have hgb := he.keep hkc
      have hbb := bordN_bd L g k j
      have hg5 := hok.2.2.2.2
      repeat refine zz ?_
      refine W_cond rfl (fun hcj => ?_) (fun hcj => ?_)
      · have hjl : j < m := by simp at hcj; omega
        obtain ⟨hA, eu, fe, hce, heu, _⟩ := ns_get hgb (i := (j : Int)) (by omega) (by omega)
        have hne := totNS_each (L := g) (k := j) (by omega)
        obtain ⟨hA1, u1, f1, hcell1, hu1, _⟩ := item_get hLb (i := (k : Int)) (by omega) (by omega)
        have hsu := bordN_succ L g k j
        have hl1 := relL_len L (gi g (j : Int)) (gi L (k : Int)).id (-1)
        have hl2 := relL_len L (gi g (j : Int)) (gi L (k : Int)).id 1
        repeat refine zz ?_
        refine W_draw (Keep wb) (by kernel_rfl) ?_
        have hS : Keep wb (World.drew wb) := Keep.drew wb
        first|refine d_o 0 ?_|refine d_a 0 ?_|refine d_s 0 ?_|refine d_n 0 ?_|refine d_i 0 ?_|refine d_f 0 ?_|refine d_b 0 ?_|refine d_d 0 ?_|refine d_l1 0 ?_|refine d_l2 0 ?_|refine d_l3 0 ?_|refine d_l4 0 ?_|refine d_l5 0 ?_|refine d_l6 0 ?_|refine d_l7 0 ?_|refine d_l8 0 ?_|refine d_l9 0 ?_|refine d_g 0 ?_|refine d_q 0 ?_|refine d_e 0 ?_|refine d_j 0 ?_
        first|refine d_o 1 ?_|refine d_a 1 ?_|refine d_s 1 ?_|refine d_n 1 ?_|refine d_i 1 ?_|refine d_f 1 ?_|refine d_b 1 ?_|refine d_d 1 ?_|refine d_l1 1 ?_|refine d_l2 1 ?_|refine d_l3 1 ?_|refine d_l4 1 ?_|refine d_l5 1 ?_|refine d_l6 1 ?_|refine d_l7 1 ?_|refine d_l8 1 ?_|refine d_l9 1 ?_|refine d_g 1 ?_|refine d_q 1 ?_|refine d_e 1 ?_|refine d_j 1 ?_
        first|refine d_o 2 ?_|refine d_a 2 ?_|refine d_s 2 ?_|refine d_n 2 ?_|refine d_i 2 ?_|refine d_f 2 ?_|refine d_b 2 ?_|refine d_d 2 ?_|refine d_l1 2 ?_|refine d_l2 2 ?_|refine d_l3 2 ?_|refine d_l4 2 ?_|refine d_l5 2 ?_|refine d_l6 2 ?_|refine d_l7 2 ?_|refine d_l8 2 ?_|refine d_l9 2 ?_|refine d_g 2 ?_|refine d_q 2 ?_|refine d_e 2 ?_|refine d_j 2 ?_
        first|refine d_o 3 ?_|refine d_a 3 ?_|refine d_s 3 ?_|refine d_n 3 ?_|refine d_i 3 ?_|refine d_f 3 ?_|refine d_b 3 ?_|refine d_d 3 ?_|refine d_l1 3 ?_|refine d_l2 3 ?_|refine d_l3 3 ?_|refine d_l4 3 ?_|refine d_l5 3 ?_|refine d_l6 3 ?_|refine d_l7 3 ?_|refine d_l8 3 ?_|refine d_l9 3 ?_|refine d_g 3 ?_|refine d_q 3 ?_|refine d_e 3 ?_|refine d_j 3 ?_
        first|refine d_o 4 ?_|refine d_a 4 ?_|refine d_s 4 ?_|refine d_n 4 ?_|refine d_i 4 ?_|refine d_f 4 ?_|refine d_b 4 ?_|refine d_d 4 ?_|refine d_l1 4 ?_|refine d_l2 4 ?_|refine d_l3 4 ?_|refine d_l4 4 ?_|refine d_l5 4 ?_|refine d_l6 4 ?_|refine d_l7 4 ?_|refine d_l8 4 ?_|refine d_l9 4 ?_|refine d_g 4 ?_|refine d_q 4 ?_|refine d_e 4 ?_|refine d_j 4 ?_
        first|refine d_o 5 ?_|refine d_a 5 ?_|refine d_s 5 ?_|refine d_n 5 ?_|refine d_i 5 ?_|refine d_f 5 ?_|refine d_b 5 ?_|refine d_d 5 ?_|refine d_l1 5 ?_|refine d_l2 5 ?_|refine d_l3 5 ?_|refine d_l4 5 ?_|refine d_l5 5 ?_|refine d_l6 5 ?_|refine d_l7 5 ?_|refine d_l8 5 ?_|refine d_l9 5 ?_|refine d_g 5 ?_|refine d_q 5 ?_|refine d_e 5 ?_|refine d_j 5 ?_
        first|refine d_o 6 ?_|refine d_a 6 ?_|refine d_s 6 ?_|refine d_n 6 ?_|refine d_i 6 ?_|refine d_f 6 ?_|refine d_b 6 ?_|refine d_d 6 ?_|refine d_l1 6 ?_|refine d_l2 6 ?_|refine d_l3 6 ?_|refine d_l4 6 ?_|refine d_l5 6 ?_|refine d_l6 6 ?_|refine d_l7 6 ?_|refine d_l8 6 ?_|refine d_l9 6 ?_|refine d_g 6 ?_|refine d_q 6 ?_|refine d_e 6 ?_|refine d_j 6 ?_
        first|refine d_o 7 ?_|refine d_a 7 ?_|refine d_s 7 ?_|refine d_n 7 ?_|refine d_i 7 ?_|refine d_f 7 ?_|refine d_b 7 ?_|refine d_d 7 ?_|refine d_l1 7 ?_|refine d_l2 7 ?_|refine d_l3 7 ?_|refine d_l4 7 ?_|refine d_l5 7 ?_|refine d_l6 7 ?_|refine d_l7 7 ?_|refine d_l8 7 ?_|refine d_l9 7 ?_|refine d_g 7 ?_|refine d_q 7 ?_|refine d_e 7 ?_|refine d_j 7 ?_
        first|refine d_o 8 ?_|refine d_a 8 ?_|refine d_s 8 ?_|refine d_n 8 ?_|refine d_i 8 ?_|refine d_f 8 ?_|refine d_b 8 ?_|refine d_d 8 ?_|refine d_l1 8 ?_|refine d_l2 8 ?_|refine d_l3 8 ?_|refine d_l4 8 ?_|refine d_l5 8 ?_|refine d_l6 8 ?_|refine d_l7 8 ?_|refine d_l8 8 ?_|refine d_l9 8 ?_|refine d_g 8 ?_|refine d_q 8 ?_|refine d_e 8 ?_|refine d_j 8 ?_
        first|refine d_o 9 ?_|refine d_a 9 ?_|refine d_s 9 ?_|refine d_n 9 ?_|refine d_i 9 ?_|refine d_f 9 ?_|refine d_b 9 ?_|refine d_d 9 ?_|refine d_l1 9 ?_|refine d_l2 9 ?_|refine d_l3 9 ?_|refine d_l4 9 ?_|refine d_l5 9 ?_|refine d_l6 9 ?_|refine d_l7 9 ?_|refine d_l8 9 ?_|refine d_l9 9 ?_|refine d_g 9 ?_|refine d_q 9 ?_|refine d_e 9 ?_|refine d_j 9 ?_
        first|refine d_o 10 ?_|refine d_a 10 ?_|refine d_s 10 ?_|refine d_n 10 ?_|refine d_i 10 ?_|refine d_f 10 ?_|refine d_b 10 ?_|refine d_d 10 ?_|refine d_l1 10 ?_|refine d_l2 10 ?_|refine d_l3 10 ?_|refine d_l4 10 ?_|refine d_l5 10 ?_|refine d_l6 10 ?_|refine d_l7 10 ?_|refine d_l8 10 ?_|refine d_l9 10 ?_|refine d_g 10 ?_|refine d_q 10 ?_|refine d_e 10 ?_|refine d_j 10 ?_
        first|refine d_o 14 ?_|refine d_a 14 ?_|refine d_s 14 ?_|refine d_n 14 ?_|refine d_i 14 ?_|refine d_f 14 ?_|refine d_b 14 ?_|refine d_d 14 ?_|refine d_l1 14 ?_|refine d_l2 14 ?_|refine d_l3 14 ?_|refine d_l4 14 ?_|refine d_l5 14 ?_|refine d_l6 14 ?_|refine d_l7 14 ?_|refine d_l8 14 ?_|refine d_l9 14 ?_|refine d_g 14 ?_|refine d_q 14 ?_|refine d_e 14 ?_|refine d_j 14 ?_
        first|refine d_o 15 ?_|refine d_a 15 ?_|refine d_s 15 ?_|refine d_n 15 ?_|refine d_i 15 ?_|refine d_f 15 ?_|refine d_b 15 ?_|refine d_d 15 ?_|refine d_l1 15 ?_|refine d_l2 15 ?_|refine d_l3 15 ?_|refine d_l4 15 ?_|refine d_l5 15 ?_|refine d_l6 15 ?_|refine d_l7 15 ?_|refine d_l8 15 ?_|refine d_l9 15 ?_|refine d_g 15 ?_|refine d_q 15 ?_|refine d_e 15 ?_|refine d_j 15 ?_
        first|refine d_o 16 ?_|refine d_a 16 ?_|refine d_s 16 ?_|refine d_n 16 ?_|refine d_i 16 ?_|refine d_f 16 ?_|refine d_b 16 ?_|refine d_d 16 ?_|refine d_l1 16 ?_|refine d_l2 16 ?_|refine d_l3 16 ?_|refine d_l4 16 ?_|refine d_l5 16 ?_|refine d_l6 16 ?_|refine d_l7 16 ?_|refine d_l8 16 ?_|refine d_l9 16 ?_|refine d_g 16 ?_|refine d_q 16 ?_|refine d_e 16 ?_|refine d_j 16 ?_
        first|refine d_o 17 ?_|refine d_a 17 ?_|refine d_s 17 ?_|refine d_n 17 ?_|refine d_i 17 ?_|refine d_f 17 ?_|refine d_b 17 ?_|refine d_d 17 ?_|refine d_l1 17 ?_|refine d_l2 17 ?_|refine d_l3 17 ?_|refine d_l4 17 ?_|refine d_l5 17 ?_|refine d_l6 17 ?_|refine d_l7 17 ?_|refine d_l8 17 ?_|refine d_l9 17 ?_|refine d_g 17 ?_|refine d_q 17 ?_|refine d_e 17 ?_|refine d_j 17 ?_
        first|refine d_o 18 ?_|refine d_a 18 ?_|refine d_s 18 ?_|refine d_n 18 ?_|refine d_i 18 ?_|refine d_f 18 ?_|refine d_b 18 ?_|refine d_d 18 ?_|refine d_l1 18 ?_|refine d_l2 18 ?_|refine d_l3 18 ?_|refine d_l4 18 ?_|refine d_l5 18 ?_|refine d_l6 18 ?_|refine d_l7 18 ?_|refine d_l8 18 ?_|refine d_l9 18 ?_|refine d_g 18 ?_|refine d_q 18 ?_|refine d_e 18 ?_|refine d_j 18 ?_
        first|refine d_o 19 ?_|refine d_a 19 ?_|refine d_s 19 ?_|refine d_n 19 ?_|refine d_i 19 ?_|refine d_f 19 ?_|refine d_b 19 ?_|refine d_d 19 ?_|refine d_l1 19 ?_|refine d_l2 19 ?_|refine d_l3 19 ?_|refine d_l4 19 ?_|refine d_l5 19 ?_|refine d_l6 19 ?_|refine d_l7 19 ?_|refine d_l8 19 ?_|refine d_l9 19 ?_|refine d_g 19 ?_|refine d_q 19 ?_|refine d_e 19 ?_|refine d_j 19 ?_
        first|refine d_o 20 ?_|refine d_a 20 ?_|refine d_s 20 ?_|refine d_n 20 ?_|refine d_i 20 ?_|refine d_f 20 ?_|refine d_b 20 ?_|refine d_d 20 ?_|refine d_l1 20 ?_|refine d_l2 20 ?_|refine d_l3 20 ?_|refine d_l4 20 ?_|refine d_l5 20 ?_|refine d_l6 20 ?_|refine d_l7 20 ?_|refine d_l8 20 ?_|refine d_l9 20 ?_|refine d_g 20 ?_|refine d_q 20 ?_|refine d_e 20 ?_|refine d_j 20 ?_
        first|refine d_o 21 ?_|refine d_a 21 ?_|refine d_s 21 ?_|refine d_n 21 ?_|refine d_i 21 ?_|refine d_f 21 ?_|refine d_b 21 ?_|refine d_d 21 ?_|refine d_l1 21 ?_|refine d_l2 21 ?_|refine d_l3 21 ?_|refine d_l4 21 ?_|refine d_l5 21 ?_|refine d_l6 21 ?_|refine d_l7 21 ?_|refine d_l8 21 ?_|refine d_l9 21 ?_|refine d_g 21 ?_|refine d_q 21 ?_|refine d_e 21 ?_|refine d_j 21 ?_
        first|refine d_o 22 ?_|refine d_a 22 ?_|refine d_s 22 ?_|refine d_n 22 ?_|refine d_i 22 ?_|refine d_f 22 ?_|refine d_b 22 ?_|refine d_d 22 ?_|refine d_l1 22 ?_|refine d_l2 22 ?_|refine d_l3 22 ?_|refine d_l4 22 ?_|refine d_l5 22 ?_|refine d_l6 22 ?_|refine d_l7 22 ?_|refine d_l8 22 ?_|refine d_l9 22 ?_|refine d_g 22 ?_|refine d_q 22 ?_|refine d_e 22 ?_|refine d_j 22 ?_
        first|refine d_o 23 ?_|refine d_a 23 ?_|refine d_s 23 ?_|refine d_n 23 ?_|refine d_i 23 ?_|refine d_f 23 ?_|refine d_b 23 ?_|refine d_d 23 ?_|refine d_l1 23 ?_|refine d_l2 23 ?_|refine d_l3 23 ?_|refine d_l4 23 ?_|refine d_l5 23 ?_|refine d_l6 23 ?_|refine d_l7 23 ?_|refine d_l8 23 ?_|refine d_l9 23 ?_|refine d_g 23 ?_|refine d_q 23 ?_|refine d_e 23 ?_|refine d_j 23 ?_
        refine WD_one 11 (by kernel_rfl) rfl ?_
        refine o_call rfl rfl rfl (spec_DominatedBy_ok (hLb.keep hS) (heu.keep hS) _ (by omega)) ?_
        rintro v3 w3 ⟨hk3, f3, hs3, hf3⟩
        replace hS := hS.keep hk3
        obtain ⟨A3, n3, c3, rfl, hn3⟩ := hs3.split
        refine WL_end ⟨hS, ?_⟩
        first|refine d_o 12 ?_|refine d_a 12 ?_|refine d_s 12 ?_|refine d_n 12 ?_|refine d_i 12 ?_|refine d_f 12 ?_|refine d_b 12 ?_|refine d_d 12 ?_|refine d_l1 12 ?_|refine d_l2 12 ?_|refine d_l3 12 ?_|refine d_l4 12 ?_|refine d_l5 12 ?_|refine d_l6 12 ?_|refine d_l7 12 ?_|refine d_l8 12 ?_|refine d_l9 12 ?_|refine d_g 12 ?_|refine d_q 12 ?_|refine d_e 12 ?_|refine d_j 12 ?_
        first|refine d_o 13 ?_|refine d_a 13 ?_|refine d_s 13 ?_|refine d_n 13 ?_|refine d_i 13 ?_|refine d_f 13 ?_|refine d_b 13 ?_|refine d_d 13 ?_|refine d_l1 13 ?_|refine d_l2 13 ?_|refine d_l3 13 ?_|refine d_l4 13 ?_|refine d_l5 13 ?_|refine d_l6 13 ?_|refine d_l7 13 ?_|refine d_l8 13 ?_|refine d_l9 13 ?_|refine d_g 13 ?_|refine d_q 13 ?_|refine d_e 13 ?_|refine d_j 13 ?_
        refine WD_one 24 (by kernel_rfl) rfl ?_
        refine o_call rfl rfl rfl (spec_DominatorsOf_ok (hLb.keep hS) (heu.keep hS) _ (by omega)) ?_
        rintro v4 w4 ⟨hk4, f4, hs4, hf4⟩
        replace hS := hS.keep hk4
        obtain ⟨A4, n4, c4, rfl, hn4⟩ := hs4.split
        refine WL_end ⟨hS, ?_⟩
        first|refine d_o 25 ?_|refine d_a 25 ?_|refine d_s 25 ?_|refine d_n 25 ?_|refine d_i 25 ?_|refine d_f 25 ?_|refine d_b 25 ?_|refine d_d 25 ?_|refine d_l1 25 ?_|refine d_l2 25 ?_|refine d_l3 25 ?_|refine d_l4 25 ?_|refine d_l5 25 ?_|refine d_l6 25 ?_|refine d_l7 25 ?_|refine d_l8 25 ?_|refine d_l9 25 ?_|refine d_g 25 ?_|refine d_q 25 ?_|refine d_e 25 ?_|refine d_j 25 ?_
        first|refine d_o 26 ?_|refine d_a 26 ?_|refine d_s 26 ?_|refine d_n 26 ?_|refine d_i 26 ?_|refine d_f 26 ?_|refine d_b 26 ?_|refine d_d 26 ?_|refine d_l1 26 ?_|refine d_l2 26 ?_|refine d_l3 26 ?_|refine d_l4 26 ?_|refine d_l5 26 ?_|refine d_l6 26 ?_|refine d_l7 26 ?_|refine d_l8 26 ?_|refine d_l9 26 ?_|refine d_g 26 ?_|refine d_q 26 ?_|refine d_e 26 ?_|refine d_j 26 ?_
        first|refine d_o 27 ?_|refine d_a 27 ?_|refine d_s 27 ?_|refine d_n 27 ?_|refine d_i 27 ?_|refine d_f 27 ?_|refine d_b 27 ?_|refine d_d 27 ?_|refine d_l1 27 ?_|refine d_l2 27 ?_|refine d_l3 27 ?_|refine d_l4 27 ?_|refine d_l5 27 ?_|refine d_l6 27 ?_|refine d_l7 27 ?_|refine d_l8 27 ?_|refine d_l9 27 ?_|refine d_g 27 ?_|refine d_q 27 ?_|refine d_e 27 ?_|refine d_j 27 ?_
        refine WD_done (by kernel_rfl) ?_
        repeat refine zz ?_
        exact ⟨j + 1, ⟨rfl, rfl, rfl, rfl, find_int rfl (by rw [hsu, hn3, hn4]), rfl, trivial⟩, ⟨hkb.keep hS, by omega⟩, by omega⟩
      · simp at hcj
        obtain rfl : j = m := by omega
        replace hoa := hoa.keep hkb
        replace hka := hkc
        have hub : (fun i => bordN L g i g.length) k = bordN L g k j := by rw [hmg]
        rw [← hub]
        repeat refine zz ?_
        refine o_buildSlice rfl rfl rfl rfl rfl (by simp [Value.cells]) (by omega) ?_
        intro bB wB halB
        have hzB := halB.size
        have hzK := hka.size_le
        replace hka := hka.keep halB.kp
        replace hoa := hoa.keep halB.kp
        repeat refine zz ?_
        refine o_appendF (R := intR) (M := _) (gi := []) rfl rfl rfl rfl rfl (by decide) hoa (Blk.src (xs := [(fun i => bordN L g i g.length) k]) halB.blk (Rows.ints _ _)) rfl (Fresh.nil _ _) (fun b hb => by simp at hb) (fun b hb => (hoa.lt hb).2) (fun b hb => by simp at hb) (by simp only [List.length_cons, List.length_nil]; omega) (by simp only [List.length_cons, List.length_nil]; omega) (by omega) ?_
        intro vN wN hoN hbN hgN
        have hkN : Keep w wN := hka.grown hgN (fun b hb => (hoa.lt hb).1)
        repeat refine zz ?_
        exact ⟨(k + 1, vN), ⟨rfl, rfl, rfl, rfl, trivial⟩, ⟨hkN, by dsimp only; omega, fun _ => h, by dsimp only; rw [scoreN_succ]; exact hoN⟩, by dsimp only; omega⟩
    · repeat refine zz ?_
      obtain ⟨fp, hs, hf⟩ := hoa.sl (by decide)
      refine ret1 rfl rfl ⟨hka, fp, ?_, hf⟩
      obtain rfl : k = 0 := by
        rcases Nat.eq_zero_or_pos k with h0 | h0
        · exact h0
        · have := hpos h0; rw [h] at this; cases this
      have e : scoreN (fun i => bordN L g i g.length) 0 = [] := by unfold scoreN; rfl
      rw [e] at hs
      rw [scoreIf, if_neg (by simp [h])]; exact hs
  · simp at hc
    obtain rfl : k = n := by omega
    repeat refine zz ?_
    obtain ⟨fp, hs, hf⟩ := hoa.sl (by decide)
    refine ret1 rfl rfl ⟨hka, fp, ?_, hf⟩
    by_cases hg : poll L g = true
    · rw [scoreIf, if_pos hg, ← hnx]; exact hs
    · obtain rfl : k = 0 := by
        rcases Nat.eq_zero_or_pos k with h0 | h0
        · exact h0
        · exact absurd (hpos h0) hg
      have e : scoreN (fun i => bordN L g i g.length) 0 = [] := by unfold scoreN; rfl
      rw [e] at hs
      rw [scoreIf, if_neg hg]; exact hs

set_option maxHeartbeats 1000000 in
theorem impl_BordaScores_ok {w : World} {v u : Value} {L : List Itm} {g : List (List Nod)} {fp gp : List Nat} (hL : Sl itemR w v L fp) (he : Sl (slR nodeR) w u g gp) (hn : g.length + totNS g ≤ 1048576) :
    Run Try.prog 87 [v, u] w (fun r w' => Keep w w' ∧ ∃ fp, Sl intR w' r (scoreIf (poll L g) L (fun i => bordN L g i g.length)) fp ∧ Fresh w.heap.size w' fp) := by
  obtain ⟨A, n, c, rfl, hnx⟩ := hL.split
  obtain ⟨Ag, m, cg, rfl, hmg⟩ := he.split
  refine Run_intro Try.func87 (by unfold CallOk; kernel_rfl) rfl Try.ntmps87 (Nat.le_of_ble_eq_true rfl) ?_
  simp only [penv, Nat.reduceAdd, Nat.zero_add]
  repeat refine zz ?_
  refine o_buildSlice rfl rfl rfl rfl rfl (by intro p hp; cases hp) (by omega) ?_
  intro b0 w1 hal
  have ho : OwnF intR w1 w.heap.size 3 (.slice (some ⟨b0, 0, none⟩) 0 0) [] [] := OwnF.made hal.blk (by have := hal.b_eq; omega)
  have hk := hal.kp
  repeat refine zz ?_
  refine o_call rfl rfl rfl (isPoll_ok (hL.keep hk) (he.keep hk) hn) ?_
  rintro _ w2 ⟨rfl, hk2⟩
  replace hk := hk.keep hk2
  replace ho := ho.keep hk2
  repeat refine zz ?_
  refine W_cond rfl (fun h => ?_) (fun h => ?_)
  · simp at h
    repeat refine zz ?_
    obtain ⟨fp, hs, hf⟩ := ho.sl (by decide)
    exact ret1 rfl rfl ⟨hk, fp, by rw [scoreIf, if_neg (by simp [h])]; exact hs, hf⟩
  simp at h
  have hok := poll_ok h
  have hit := hok.1
  have hln := hok.2.1
  repeat refine zz ?_
  refine W_loop (S := Nat × Value) (fun s => [(0, .slice A n c), (1, .slice Ag m cg), (5, s.2), (17, .slice A n c), (18, .int .i64 n), (19, .int .i64 (s.1 : Int))]) (fun s w' => Keep w w' ∧ s.1 ≤ n ∧ OwnF intR w' w.heap.size 3 s.2 (scoreN (fun i => bordN L g i g.length) s.1) []) (fun s => n - s.1) (0, _) ⟨rfl, rfl, rfl, rfl, rfl, rfl, trivial⟩ ⟨hk, Nat.zero_le _, by unfold scoreN; exact ho⟩ ?_
  clear ho hal hk hk2
  rintro ⟨k, va⟩ wa ⟨hka, hkn, hoa⟩
  dsimp only at hkn hoa ⊢
  have hpl := scoreN_len (fun i => bordN L g i g.length) k
  repeat refine zz ?_
  refine W_cond rfl (fun hc => ?_) (fun hc => ?_)
  · have hkl : k < n := by simp at hc; omega
    obtain ⟨hA, u2, f2, hcell, hu2, _⟩ := item_get (hL.keep hka) (i := (k : Int)) (by omega) (by omega)
    have o2 := hu2.oneCell
    repeat refine zz ?_
    refine o_alloc rfl rfl ?_
    intro bR wR halR
    have hbR0 := halR.blk
    repeat refine zz ?_
    refine o_storeS (b := bR) (off := 0) rfl rfl rfl rfl (by repeat (first | exact ones_nil | refine ones_cons (by first | rfl | assumption) ?_)) rfl hbR0 (by simp) ?_
    intro wS huS
    have hbR : Blk wS bR _ [.int .i64 (gi L (k : Int)).id, u2] := huS.blk
    have hkS := halR.kp.upd huS (Nat.le_of_eq halR.b_eq.symm)
    have hRe := halR.b_eq
    clear hbR0 huS halR
    replace hka := hka.keep hkS
    replace hoa := hoa.keep hkS
    replace hu2 := hu2.keep hkS
    clear hcell
    have hb2 := hbR
    clear hbR hRe hkS
    repeat refine zz ?_
    refine W_loop (S := Nat) (fun j => [(0, .slice A n c), (1, .slice Ag m cg), (5, va), (17, .slice A n c), (18, .int .i64 n), (19, .int .i64 (k : Int)), (7, .pointer (some ⟨bR, 0, none⟩)), (8, .int .i64 (bordN L g k j)), (23, .slice Ag m cg), (24, .int .i64 m), (25, .int .i64 (j : Int))]) (fun j w' => Keep wS w' ∧ j ≤ m) (fun j => m - j) 0 ⟨rfl, rfl, rfl, rfl, rfl, rfl, rfl, find_int rfl (by unfold bordN; rfl), rfl, rfl, rfl, trivial⟩ ⟨Keep.refl _, Nat.zero_le _⟩ ?_
    rintro j wb ⟨hkb, hj⟩
    have hkc := hka.keep hkb
    have hLb := hL.keep hkc
    have hgb := he.keep hkc
    have hbO := hb2.keep hkb
    have hbb := bordN_bd L g k j
    have hg5 := hok.2.2.2.2
    repeat refine zz ?_
    refine W_cond rfl (fun hcj => ?_) (fun hcj => ?_)
    · have hjl : j < m := by simp at hcj; omega
      obtain ⟨hA, eu, fe, hce, heu, _⟩ := ns_get hgb (i := (j : Int)) (by omega) (by omega)
      have hne := totNS_each (L := g) (k := j) (by omega)
      have hsu := bordN_succ L g k j
      have hl1 := relL_len L (gi g (j : Int)) (gi L (k : Int)).id (-1)
      have hl2 := relL_len L (gi g (j : Int)) (gi L (k : Int)).id 1
      repeat refine zz ?_
      refine W_draw (Keep wb) (by kernel_rfl) ?_
      have hS : Keep wb (World.drew wb) := Keep.drew wb
      first|refine d_o 0 ?_|refine d_a 0 ?_|refine d_s 0 ?_|refine d_n 0 ?_|refine d_i 0 ?_|refine d_f 0 ?_|refine d_b 0 ?_|refine d_d 0 ?_|refine d_l1 0 ?_|refine d_l2 0 ?_|refine d_l3 0 ?_|refine d_l4 0 ?_|refine d_l5 0 ?_|refine d_l6 0 ?_|refine d_l7 0 ?_|refine d_l8 0 ?_|refine d_l9 0 ?_|refine d_g 0 ?_|refine d_q 0 ?_|refine d_e 0 ?_|refine d_j 0 ?_
      first|refine d_o 1 ?_|refine d_a 1 ?_|refine d_s 1 ?_|refine d_n 1 ?_|refine d_i 1 ?_|refine d_f 1 ?_|refine d_b 1 ?_|refine d_d 1 ?_|refine d_l1 1 ?_|refine d_l2 1 ?_|refine d_l3 1 ?_|refine d_l4 1 ?_|refine d_l5 1 ?_|refine d_l6 1 ?_|refine d_l7 1 ?_|refine d_l8 1 ?_|refine d_l9 1 ?_|refine d_g 1 ?_|refine d_q 1 ?_|refine d_e 1 ?_|refine d_j 1 ?_
      first|refine d_o 2 ?_|refine d_a 2 ?_|refine d_s 2 ?_|refine d_n 2 ?_|refine d_i 2 ?_|refine d_f 2 ?_|refine d_b 2 ?_|refine d_d 2 ?_|refine d_l1 2 ?_|refine d_l2 2 ?_|refine d_l3 2 ?_|refine d_l4 2 ?_|refine d_l5 2 ?_|refine d_l6 2 ?_|refine d_l7 2 ?_|refine d_l8 2 ?_|refine d_l9 2 ?_|refine d_g 2 ?_|refine d_q 2 ?_|refine d_e 2 ?_|refine d_j 2 ?_
      first|refine d_o 3 ?_|refine d_a 3 ?_|refine d_s 3 ?_|refine d_n 3 ?_|refine d_i 3 ?_|refine d_f 3 ?_|refine d_b 3 ?_|refine d_d 3 ?_|refine d_l1 3 ?_|refine d_l2 3 ?_|refine d_l3 3 ?_|refine d_l4 3 ?_|refine d_l5 3 ?_|refine d_l6 3 ?_|refine d_l7 3 ?_|refine d_l8 3 ?_|refine d_l9 3 ?_|refine d_g 3 ?_|refine d_q 3 ?_|refine d_e 3 ?_|refine d_j 3 ?_
      first|refine d_o 4 ?_|refine d_a 4 ?_|refine d_s 4 ?_|refine d_n 4 ?_|refine d_i 4 ?_|refine d_f 4 ?_|refine d_b 4 ?_|refine d_d 4 ?_|refine d_l1 4 ?_|refine d_l2 4 ?_|refine d_l3 4 ?_|refine d_l4 4 ?_|refine d_l5 4 ?_|refine d_l6 4 ?_|refine d_l7 4 ?_|refine d_l8 4 ?_|refine d_l9 4 ?_|refine d_g 4 ?_|refine d_q 4 ?_|refine d_e 4 ?_|refine d_j 4 ?_
      first|refine d_o 8 ?_|refine d_a 8 ?_|refine d_s 8 ?_|refine d_n 8 ?_|refine d_i 8 ?_|refine d_f 8 ?_|refine d_b 8 ?_|refine d_d 8 ?_|refine d_l1 8 ?_|refine d_l2 8 ?_|refine d_l3 8 ?_|refine d_l4 8 ?_|refine d_l5 8 ?_|refine d_l6 8 ?_|refine d_l7 8 ?_|refine d_l8 8 ?_|refine d_l9 8 ?_|refine d_g 8 ?_|refine d_q 8 ?_|refine d_e 8 ?_|refine d_j 8 ?_
      first|refine d_o 9 ?_|refine d_a 9 ?_|refine d_s 9 ?_|refine d_n 9 ?_|refine d_i 9 ?_|refine d_f 9 ?_|refine d_b 9 ?_|refine d_d 9 ?_|refine d_l1 9 ?_|refine d_l2 9 ?_|refine d_l3 9 ?_|refine d_l4 9 ?_|refine d_l5 9 ?_|refine d_l6 9 ?_|refine d_l7 9 ?_|refine d_l8 9 ?_|refine d_l9 9 ?_|refine d_g 9 ?_|refine d_q 9 ?_|refine d_e 9 ?_|refine d_j 9 ?_
      first|refine d_o 10 ?_|refine d_a 10 ?_|refine d_s 10 ?_|refine d_n 10 ?_|refine d_i 10 ?_|refine d_f 10 ?_|refine d_b 10 ?_|refine d_d 10 ?_|refine d_l1 10 ?_|refine d_l2 10 ?_|refine d_l3 10 ?_|refine d_l4 10 ?_|refine d_l5 10 ?_|refine d_l6 10 ?_|refine d_l7 10 ?_|refine d_l8 10 ?_|refine d_l9 10 ?_|refine d_g 10 ?_|refine d_q 10 ?_|refine d_e 10 ?_|refine d_j 10 ?_
      first|refine d_o 11 ?_|refine d_a 11 ?_|refine d_s 11 ?_|refine d_n 11 ?_|refine d_i 11 ?_|refine d_f 11 ?_|refine d_b 11 ?_|refine d_d 11 ?_|refine d_l1 11 ?_|refine d_l2 11 ?_|refine d_l3 11 ?_|refine d_l4 11 ?_|refine d_l5 11 ?_|refine d_l6 11 ?_|refine d_l7 11 ?_|refine d_l8 11 ?_|refine d_l9 11 ?_|refine d_g 11 ?_|refine d_q 11 ?_|refine d_e 11 ?_|refine d_j 11 ?_
      refine WD_one 5 (by kernel_rfl) rfl ?_
      refine o_call rfl rfl rfl (impl_DominatedBy_ok (hLb.keep hS) (heu.keep hS) _ (by omega)) ?_
      rintro v3 w3 ⟨hk3, f3, hs3, hf3⟩
      replace hS := hS.keep hk3
      obtain ⟨A3, n3, c3, rfl, hn3⟩ := hs3.split
      refine WL_end ⟨hS, ?_⟩
      first|refine d_o 6 ?_|refine d_a 6 ?_|refine d_s 6 ?_|refine d_n 6 ?_|refine d_i 6 ?_|refine d_f 6 ?_|refine d_b 6 ?_|refine d_d 6 ?_|refine d_l1 6 ?_|refine d_l2 6 ?_|refine d_l3 6 ?_|refine d_l4 6 ?_|refine d_l5 6 ?_|refine d_l6 6 ?_|refine d_l7 6 ?_|refine d_l8 6 ?_|refine d_l9 6 ?_|refine d_g 6 ?_|refine d_q 6 ?_|refine d_e 6 ?_|refine d_j 6 ?_
      first|refine d_o 7 ?_|refine d_a 7 ?_|refine d_s 7 ?_|refine d_n 7 ?_|refine d_i 7 ?_|refine d_f 7 ?_|refine d_b 7 ?_|refine d_d 7 ?_|refine d_l1 7 ?_|refine d_l2 7 ?_|refine d_l3 7 ?_|refine d_l4 7 ?_|refine d_l5 7 ?_|refine d_l6 7 ?_|refine d_l7 7 ?_|refine d_l8 7 ?_|refine d_l9 7 ?_|refine d_g 7 ?_|refine d_q 7 ?_|refine d_e 7 ?_|refine d_j 7 ?_
      refine WD_one 12 (by kernel_rfl) rfl ?_
      refine o_call rfl rfl rfl (impl_DominatorsOf_ok (hLb.keep hS) (heu.keep hS) _ (by omega)) ?_
      rintro v4 w4 ⟨hk4, f4, hs4, hf4⟩
      replace hS := hS.keep hk4
      obtain ⟨A4, n4, c4, rfl, hn4⟩ := hs4.split
      refine WL_end ⟨hS, ?_⟩
      first|refine d_o 13 ?_|refine d_a 13 ?_|refine d_s 13 ?_|refine d_n 13 ?_|refine d_i 13 ?_|refine d_f 13 ?_|refine d_b 13 ?_|refine d_d 13 ?_|refine d_l1 13 ?_|refine d_l2 13 ?_|refine d_l3 13 ?_|refine d_l4 13 ?_|refine d_l5 13 ?_|refine d_l6 13 ?_|refine d_l7 13 ?_|refine d_l8 13 ?_|refine d_l9 13 ?_|refine d_g 13 ?_|refine d_q 13 ?_|refine d_e 13 ?_|refine d_j 13 ?_
      first|refine d_o 14 ?_|refine d_a 14 ?_|refine d_s 14 ?_|refine d_n 14 ?_|refine d_i 14 ?_|refine d_f 14 ?_|refine d_b 14 ?_|refine d_d 14 ?_|refine d_l1 14 ?_|refine d_l2 14 ?_|refine d_l3 14 ?_|refine d_l4 14 ?_|refine d_l5 14 ?_|refine d_l6 14 ?_|refine d_l7 14 ?_|refine d_l8 14 ?_|refine d_l9 14 ?_|refine d_g 14 ?_|refine d_q 14 ?_|refine d_e 14 ?_|refine d_j 14 ?_
      first|refine d_o 15 ?_|refine d_a 15 ?_|refine d_s 15 ?_|refine d_n 15 ?_|refine d_i 15 ?_|refine d_f 15 ?_|refine d_b 15 ?_|refine d_d 15 ?_|refine d_l1 15 ?_|refine d_l2 15 ?_|refine d_l3 15 ?_|refine d_l4 15 ?_|refine d_l5 15 ?_|refine d_l6 15 ?_|refine d_l7 15 ?_|refine d_l8 15 ?_|refine d_l9 15 ?_|refine d_g 15 ?_|refine d_q 15 ?_|refine d_e 15 ?_|refine d_j 15 ?_
      refine WD_done (by kernel_rfl) ?_
      repeat refine zz ?_
      exact ⟨j + 1, ⟨rfl, rfl, rfl, rfl, rfl, rfl, rfl, find_int rfl (by rw [hsu, hn3, hn4]), rfl, rfl, rfl, trivial⟩, ⟨hkb.keep hS, by omega⟩, by omega⟩
    · simp at hcj
      obtain rfl : j = m := by omega
      replace hoa := hoa.keep hkb
      replace hka := hkc
      have hub : (fun i => bordN L g i g.length) k = bordN L g k j := by rw [hmg]
      rw [← hub]
      repeat refine zz ?_
      refine o_buildSlice rfl rfl rfl rfl rfl (by simp [Value.cells]) (by omega) ?_
      intro bB wB halB
      have hzB := halB.size
      have hzK := hka.size_le
      replace hka := hka.keep halB.kp
      replace hoa := hoa.keep halB.kp
      repeat refine zz ?_
      refine o_appendF (R := intR) (M := _) (gi := []) rfl rfl rfl rfl rfl (by decide) hoa (Blk.src (xs := [(fun i => bordN L g i g.length) k]) halB.blk (Rows.ints _ _)) rfl (Fresh.nil _ _) (fun b hb => by simp at hb) (fun b hb => (hoa.lt hb).2) (fun b hb => by simp at hb) (by simp only [List.length_cons, List.length_nil]; omega) (by simp only [List.length_cons, List.length_nil]; omega) (by omega) ?_
      intro vN wN hoN hbN hgN
      have hkN : Keep w wN := hka.grown hgN (fun b hb => (hoa.lt hb).1)
      repeat refine zz ?_
      exact ⟨(k + 1, vN), ⟨rfl, rfl, rfl, rfl, rfl, rfl, trivial⟩, ⟨hkN, by dsimp only; omega, by dsimp only; rw [scoreN_succ]; exact hoN⟩, by dsimp only; omega⟩
  · simp at hc
    obtain rfl : k = n := by omega
    repeat refine zz ?_
    obtain ⟨fp, hs, hf⟩ := hoa.sl (by decide)
    exact ret1 rfl rfl ⟨hka, fp, by rw [scoreIf, if_pos h, ← hnx]; exact hs, hf⟩

set_option maxHeartbeats 1000000 in
theorem spec_ApprovalScores_ok {w : World} {v u : Value} {L : List Itm} {g : List (List Nod)} {fp gp : List Nat} (hL : Sl itemR w v L fp) (he : Sl (slR nodeR) w u g gp) (hn : g.length + totNS g ≤ 1048576) :
    Run Try.prog 99 [v, u] w (fun r w' => Keep w w' ∧ ∃ fp, Sl intR w' r (scoreIf (poll L g) L (fun i => apprN L g i g.length)) fp ∧ Fresh w.heap.size w' fp) := by
  obtain ⟨A, n, c, rfl, hnx⟩ := hL.split
  obtain ⟨Ag, m, cg, rfl, hmg⟩ := he.split
  refine Run_intro Try.func99 (by unfold CallOk; kernel_rfl) rfl Try.ntmps99 (Nat.le_of_ble_eq_true rfl) ?_
  simp only [penv, Nat.reduceAdd, Nat.zero_add]
  repeat refine zz ?_
  refine o_buildSlice rfl rfl rfl rfl rfl (by intro p hp; cases hp) (by omega) ?_
  intro b0 w1 hal
  have ho : OwnF intR w1 w.heap.size 3 (.slice (some ⟨b0, 0, none⟩) 0 0) [] [] := OwnF.made hal.blk (by have := hal.b_eq; omega)
  have hk := hal.kp
  repeat refine zz ?_
  refine W_loop (S := Nat × Value) (fun s => [(0, .slice A n c), (1, .slice Ag m cg), (5, s.2), (6, .int .i64 (s.1 : Int))]) (fun s w' => Keep w w' ∧ s.1 ≤ n ∧ (0 < s.1 → poll L g = true) ∧ OwnF intR w' w.heap.size 3 s.2 (scoreN (fun i => apprN L g i g.length) s.1) []) (fun s => n - s.1) (0, _) ⟨rfl, rfl, rfl, rfl, trivial⟩ ⟨hk, Nat.zero_le _, fun h => absurd h (by simp), by unfold scoreN; exact ho⟩ ?_
  clear ho hal hk
  rintro ⟨k, va⟩ wa ⟨hka, hkn, hpos, hoa⟩
  dsimp only at hkn hpos hoa ⊢
  have hpl := scoreN_len (fun i => apprN L g i g.length) k
  repeat refine zz ?_
  refine WL_part rfl rfl (fun hc => ?_) (fun hc => ?_)
  · have hkl : k < n := by simp at hc; omega
    repeat refine zz ?_
    refine o_call rfl rfl rfl (l12Fine_ok (hL.keep hka) (he.keep hka) hn) ?_
    rintro _ w2 ⟨rfl, hk2⟩
    replace hka := hka.keep hk2
    replace hoa := hoa.keep hk2
    repeat refine zz ?_
    refine W_cond rfl (fun h => ?_) (fun h => ?_)
    · have hok := poll_ok h
      have hit := hok.1
      have hln := hok.2.1
      repeat refine zz ?_
      refine W_loop (S := Nat) (fun j => [(0, .slice A n c), (1, .slice Ag m cg), (5, va), (6, .int .i64 (k : Int)), (7, .int .i64 (apprN L g k j)), (8, .int .i64 (j : Int))]) (fun j w' => Keep w2 w' ∧ j ≤ m) (fun j => m - j) 0 ⟨rfl, rfl, rfl, rfl, find_int rfl (by unfold apprN; rfl), rfl, trivial⟩ ⟨Keep.refl _, Nat.zero_le _⟩ ?_
      rintro j wb ⟨hkb, hj⟩
      have hkc := hka.keep hkb
      have hLb := hL.keep hkc
      have hgb := he.keep hkc
      have hbb := apprN_bd L g k j
      have hg5 := hok.2.2.2.2
      repeat refine zz ?_
      refine W_cond rfl (fun hcj => ?_) (fun hcj => ?_)
      · have hjl : j < m := by simp at hcj; omega
        obtain ⟨hA, eu, fe, hce, heu, _⟩ := ns_get hgb (i := (j : Int)) (by omega) (by omega)
        have hne := totNS_each (L := g) (k := j) (by omega)
        obtain ⟨hA1, u1, f1, hcell1, hu1, _⟩ := item_get hLb (i := (k : Int)) (by omega) (by omega)
        have hsu := apprN_succ L g k j
        repeat refine zz ?_
        refine W_quiet (Keep wb) (by kernel_rfl) (by kernel_rfl) (Keep.drew _) ?_
        repeat refine qq ?_
        refine WQ_call rfl rfl rfl (fun w' hw' => (spec_IsBest_ok (hLb.keep hw') (heu.keep hw') _ (by omega)).kk hw') ?_
        repeat refine qq ?_
        intro wd hkd 
        repeat refine zz ?_
        refine W_cond rfl (fun hd => ?_) (fun hd => ?_)
        · repeat refine zz ?_
          exact ⟨j + 1, ⟨rfl, rfl, rfl, rfl, find_int rfl (by rw [hsu, if_pos hd]), rfl, trivial⟩, ⟨hkb.keep hkd, by omega⟩, by omega⟩
        · repeat refine zz ?_
          exact ⟨j + 1, ⟨rfl, rfl, rfl, rfl, find_int rfl (by rw [hsu, if_neg (by simp [hd])]), rfl, trivial⟩, ⟨hkb.keep hkd, by omega⟩, by omega⟩
      · simp at hcj
        obtain rfl : j = m := by omega
        replace hoa := hoa.keep hkb
        replace hka := hkc
        have hub : (fun i => apprN L g i g.length) k = apprN L g k j := by rw [hmg]
        rw [← hub]
        repeat refine zz ?_
        refine o_buildSlice rfl rfl rfl rfl rfl (by simp [Value.cells]) (by omega) ?_
        intro bB wB halB
        have hzB := halB.size
        have hzK := hka.size_le
        replace hka := hka.keep halB.kp
        replace hoa := hoa.keep halB.kp
        repeat refine zz ?_
        refine o_appendF (R := intR) (M := _) (gi := []) rfl rfl rfl rfl rfl (by decide) hoa (Blk.src (xs := [(fun i => apprN L g i g.length) k]) halB.blk (Rows.ints _ _)) rfl (Fresh.nil _ _) (fun b hb => by simp at hb) (fun b hb => (hoa.lt hb).2) (fun b hb => by simp at hb) (by simp only [List.length_cons, List.length_nil]; omega) (by simp only [List.length_cons, List.length_nil]; omega) (by omega) ?_
        intro vN wN hoN hbN hgN
        have hkN : Keep w wN := hka.grown hgN (fun b hb => (hoa.lt hb).1)
        repeat refine zz ?_
        exact ⟨(k + 1, vN), ⟨rfl, rfl, rfl, rfl, trivial⟩, ⟨hkN, by dsimp only; omega, fun _ => h, by dsimp only; rw [scoreN_succ]; exact hoN⟩, by dsimp only; omega⟩
    · repeat refine zz ?_
      obtain ⟨fp, hs, hf⟩ := hoa.sl (by decide)
      refine ret1 rfl rfl ⟨hka, fp, ?_, hf⟩
      obtain rfl : k = 0 := by
        rcases Nat.eq_zero_or_pos k with h0 | h0
        · exact h0
        · have := hpos h0; rw [h] at this; cases this
      have e : scoreN (fun i => apprN L g i g.length) 0 = [] := by unfold scoreN; rfl
      rw [e] at hs
      rw [scoreIf, if_neg (by simp [h])]; exact hs
  · simp at hc
    obtain rfl : k = n := by omega
    repeat refine zz ?_
    obtain ⟨fp, hs, hf⟩ := hoa.sl (by decide)
    refine ret1 rfl rfl ⟨hka, fp, ?_, hf⟩
    by_cases hg : poll L g = true
    · rw [scoreIf, if_pos hg, ← hnx]; exact hs
    · obtain rfl : k = 0 := by
        rcases Nat.eq_zero_or_pos k with h0 | h0
        · exact h0
        · exact absurd (hpos h0) hg
      have e : scoreN (fun i => apprN L g i g.length) 0 = [] := by unfold scoreN; rfl
      rw [e] at hs
      rw [scoreIf, if_neg hg]; exact hs

set_option maxHeartbeats 1000000 in
theorem impl_ApprovalScores_ok {w : World} {v u : Value} {L : List Itm} {g : List (List Nod)} {fp gp : List Nat} (hL : Sl itemR w v L fp) (he : Sl (slR nodeR) w u g gp) (hn : g.length + totNS g ≤ 1048576) :
    Run Try.prog 95 [v, u] w (fun r w' => Keep w w' ∧ ∃ fp, Sl intR w' r (scoreIf (poll L g) L (fun i => apprN L g i g.length)) fp ∧ Fresh w.heap.size w' fp) := by
  obtain ⟨A, n, c, rfl, hnx⟩ := hL.split
  obtain ⟨Ag, m, cg, rfl, hmg⟩ := he.split
  refine Run_intro Try.func95 (by unfold CallOk; kernel_rfl) rfl Try.ntmps95 (Nat.le_of_ble_eq_true rfl) ?_
  simp only [penv, Nat.reduceAdd, Nat.zero_add]
  repeat refine zz ?_
  refine o_buildSlice rfl rfl rfl rfl rfl (by intro p hp; cases hp) (by omega) ?_
  intro b0 w1 hal
  have ho : OwnF intR w1 w.heap.size 3 (.slice (some ⟨b0, 0, none⟩) 0 0) [] [] := OwnF.made hal.blk (by have := hal.b_eq; omega)
  have hk := hal.kp
  repeat refine zz ?_
  refine o_call rfl rfl rfl (isPoll_ok (hL.keep hk) (he.keep hk) hn) ?_
  rintro _ w2 ⟨rfl, hk2⟩
  replace hk := hk.keep hk2
  replace ho := ho.keep hk2
  repeat refine zz ?_
  refine W_cond rfl (fun h => ?_) (fun h => ?_)
  · simp at h
    repeat refine zz ?_
    obtain ⟨fp, hs, hf⟩ := ho.sl (by decide)
    exact ret1 rfl rfl ⟨hk, fp, by rw [scoreIf, if_neg (by simp [h])]; exact hs, hf⟩
  simp at h
  have hok := poll_ok h
  have hit := hok.1
  have hln := hok.2.1
  repeat refine zz ?_
  refine W_loop (S := Nat × Value) (fun s => [(0, .slice A n c), (1, .slice Ag m cg), (5, s.2), (17, .slice A n c), (18, .int .i64 n), (19, .int .i64 (s.1 : Int))]) (fun s w' => Keep w w' ∧ s.1 ≤ n ∧ OwnF intR w' w.heap.size 3 s.2 (scoreN (fun i => apprN L g i g.length) s.1) []) (fun s => n - s.1) (0, _) ⟨rfl, rfl, rfl, rfl, rfl, rfl, trivial⟩ ⟨hk, Nat.zero_le _, by unfold scoreN; exact ho⟩ ?_
  clear ho hal hk hk2
  rintro ⟨k, va⟩ wa ⟨hka, hkn, hoa⟩
  dsimp only at hkn hoa ⊢
  have hpl := scoreN_len (fun i => apprN L g i g.length) k
  repeat refine zz ?_
  refine W_cond rfl (fun hc => ?_) (fun hc => ?_)
  · have hkl : k < n := by simp at hc; omega
    obtain ⟨hA, u2, f2, hcell, hu2, _⟩ := item_get (hL.keep hka) (i := (k : Int)) (by omega) (by omega)
    have o2 := hu2.oneCell
    repeat refine zz ?_
    refine o_alloc rfl rfl ?_
    intro bR wR halR
    have hbR0 := halR.blk
    repeat refine zz ?_
    refine o_storeS (b := bR) (off := 0) rfl rfl rfl rfl (by repeat (first | exact ones_nil | refine ones_cons (by first | rfl | assumption) ?_)) rfl hbR0 (by simp) ?_
    intro wS huS
    have hbR : Blk wS bR _ [.int .i64 (gi L (k : Int)).id, u2] := huS.blk
    have hkS := halR.kp.upd huS (Nat.le_of_eq halR.b_eq.symm)
    have hRe := halR.b_eq
    clear hbR0 huS halR
    replace hka := hka.keep hkS
    replace hoa := hoa.keep hkS
    replace hu2 := hu2.keep hkS
    clear hcell
    have hb2 := hbR
    clear hbR hRe hkS
    repeat refine zz ?_
    refine W_loop (S := Nat) (fun j => [(0, .slice A n c), (1, .slice Ag m cg), (5, va), (17, .slice A n c), (18, .int .i64 n), (19, .int .i64 (k : Int)), (7, .pointer (some ⟨bR, 0, none⟩)), (8, .int .i64 (apprN L g k j)), (23, .slice Ag m cg), (24, .int .i64 m), (25, .int .i64 (j : Int))]) (fun j w' => Keep wS w' ∧ j ≤ m) (fun j => m - j) 0 ⟨rfl, rfl, rfl, rfl, rfl, rfl, rfl, find_int rfl (by unfold apprN; rfl), rfl, rfl, rfl, trivial⟩ ⟨Keep.refl _, Nat.zero_le _⟩ ?_
    rintro j wb ⟨hkb, hj⟩
    have hkc := hka.keep hkb
    have hLb := hL.keep hkc
    have hgb := he.keep hkc
    have hbb := apprN_bd L g k j
    have hg5 := hok.2.2.2.2
    repeat refine zz ?_
    refine W_cond rfl (fun hcj => ?_) (fun hcj => ?_)
    · have hjl : j < m := by simp at hcj; omega
      obtain ⟨hA, eu, fe, hce, heu, _⟩ := ns_get hgb (i := (j : Int)) (by omega) (by omega)
      have hne := totNS_each (L := g) (k := j) (by omega)
      have hbO := hb2.keep hkb
      have hsu := apprN_succ L g k j
      repeat refine zz ?_
      refine o_call rfl rfl rfl (impl_IsBest_ok hLb heu _ (by omega)) ?_
      rintro _ wd ⟨rfl, hkd⟩
      repeat refine zz ?_
      refine W_cond rfl (fun hd => ?_) (fun hd => ?_)
      · repeat refine zz ?_
        exact ⟨j + 1, ⟨rfl, rfl, rfl, rfl, rfl, rfl, rfl, find_int rfl (by rw [hsu, if_pos hd]), rfl, rfl, rfl, trivial⟩, ⟨hkb.keep hkd, by omega⟩, by omega⟩
      · repeat refine zz ?_
        exact ⟨j + 1, ⟨rfl, rfl, rfl, rfl, rfl, rfl, rfl, find_int rfl (by rw [hsu, if_neg (by simp [hd])]), rfl, rfl, rfl, trivial⟩, ⟨hkb.keep hkd, by omega⟩, by omega⟩
    · simp at hcj
      obtain rfl : j = m := by omega
      replace hoa := hoa.keep hkb
      replace hka := hkc
      have hub : (fun i => apprN L g i g.length) k = apprN L g k j := by rw [hmg]
      rw [← hub]
      repeat refine zz ?_
      refine o_buildSlice rfl rfl rfl rfl rfl (by simp [Value.cells]) (by omega) ?_
      intro bB wB halB
      have hzB := halB.size
      have hzK := hka.size_le
      replace hka := hka.keep halB.kp
      replace hoa := hoa.keep halB.kp
      repeat refine zz ?_
      refine o_appendF (R := intR) (M := _) (gi := []) rfl rfl rfl rfl rfl (by decide) hoa (Blk.src (xs := [(fun i => apprN L g i g.length) k]) halB.blk (Rows.ints _ _)) rfl (Fresh.nil _ _) (fun b hb => by simp at hb) (fun b hb => (hoa.lt hb).2) (fun b hb => by simp at hb) (by simp only [List.length_cons, List.length_nil]; omega) (by simp only [List.length_cons, List.length_nil]; omega) (by omega) ?_
      intro vN wN hoN hbN hgN
      have hkN : Keep w wN := hka.grown hgN (fun b hb => (hoa.lt hb).1)
      repeat refine zz ?_
      exact ⟨(k + 1, vN), ⟨rfl, rfl, rfl, rfl, rfl, rfl, trivial⟩, ⟨hkN, by dsimp only; omega, by dsimp only; rw [scoreN_succ]; exact hoN⟩, by dsimp only; omega⟩
  · simp at hc
    obtain rfl : k = n := by omega
    repeat refine zz ?_
    obtain ⟨fp, hs, hf⟩ := hoa.sl (by decide)
    exact ret1 rfl rfl ⟨hka, fp, by rw [scoreIf, if_pos h, ← hnx]; exact hs, hf⟩

end Go.E

/-
  Contracts: how an expression compares two items, by the program and by the reference. Conditions: the expression and the items are valid.
-/
import Derived.Test.YtdenoambgonomaaW5
import Derived.Test.YtdenoambgonomaaL9
import Derived.Test.YtdenoambgonomaaSt
set_option linter.unusedVariables false
set_option linter.unusedSimpArgs false
namespace Go.E
open Go Go.RowKit Go.Proofs
theorem stkCmp {e : List Nod} (x y : Itm) {n : Nat} (h : ∀ i, i < n → exOk e i = true) : ∀ c, c ∈ stk e x y n → isCmp c := by
  intro c hc
  rw [stk_eq] at hc
  obtain ⟨f, hf, rfl⟩ := List.mem_map.1 hc
  exact (stkF_ok h f hf).rng x y
theorem stk_succ (e : List Nod) (x y : Itm) (n : Nat) : stk e x y (n + 1) = if (gi e (n : Int)).op = 0 then stk e x y n ++ [itemCmp (gi e (n : Int)).wish x y]
    else if (gi e (n : Int)).op = 3 then (stk e x y n).set ((stk e x y n).length - 1) (dual (gi (stk e x y n) (((stk e x y n).length - 1 : Nat) : Int)))
    else (stk e x y n).take ((stk e x y n).length - 2) ++ [comb (gi e (n : Int)).op (gi (stk e x y n) (((stk e x y n).length - 2 : Nat) : Int)) (gi (stk e x y n) (((stk e x y n).length - 1 : Nat) : Int))] := rfl
theorem itemCmp_def (w : Wsh) (x y : Itm) : itemCmp w x y = cmpV w (gi x.vals w.field) (gi y.vals w.field) := rfl
theorem set_gi {xs : List Int} {k : Nat} (h : k < xs.length) : xs.set k (gi xs (k : Int)) = xs := by rw [gi_lt h]; exact List.set_getElem_self h
attribute [local irreducible] W WL WD WE thenE inE retQ PureOp Keep Cell Cells Blk Sl Rows Own Src Fresh
attribute [local irreducible] stk itemCmp comb

set_option maxHeartbeats 2000000 in
theorem l5Compare_ok {w : World} {v vx vy : Value} {e : List Nod} {x y : Itm} {fp fx fy : List Nat} (he : Sl nodeR w v e fp) (hx : Sl intR w vx x.vals fx) (hy : Sl intR w vy y.vals fy) (hex : isExpr e = true) (ix : isItem x = true) (iy : isItem y = true) :
    Run Try.prog 93 [v, .agg #[.int .i64 x.id, vx], .agg #[.int .i64 y.id, vy]] w (fun r w' => r = .int .i64 (cmpE e x y) ∧ Keep w w') := by
  obtain ⟨hall, hdep, hlen9⟩ := isExpr_ok hex
  obtain ⟨A, n, c, rfl, hnx⟩ := he.split
  refine Run_intro Try.func93 (by unfold CallOk; kernel_rfl) rfl Try.ntmps93 (Nat.le_of_ble_eq_true rfl) ?_
  simp only [penv, Nat.reduceAdd, Nat.zero_add]
  repeat (first|refine z_1 ?_|refine z_2 ?_|refine s_o ?_|refine z_3 ?_|refine z_4 ?_|refine z_5 ?_|refine z_6 ?_|refine z_7 ?_|refine z_8 ?_|refine z_9 ?_|refine z_a ?_|refine z_b ?_|refine z_d ?_|refine z_e ?_|refine z_f ?_|refine z_g ?_|refine z_h ?_|refine z_i ?_|refine z_j ?_|refine s_a ?_|refine s_s ?_|refine s_n ?_|refine s_i ?_|refine s_f ?_|refine s_b ?_|refine s_d ?_|refine s_l1 ?_|refine s_l2 ?_|refine s_l3 ?_|refine s_l4 ?_|refine s_l5 ?_|refine s_l6 ?_|refine s_l7 ?_|refine s_l8 ?_|refine s_l9 ?_|refine s_g ?_|refine s_q ?_|refine s_e ?_|refine s_j ?_)
  refine o_boxS rfl rfl rfl ?_
  intro b1 w1 hal1
  have hb1 := hal1.blk
  have hk := hal1.kp
  repeat (first|refine z_1 ?_|refine z_2 ?_|refine s_o ?_|refine z_3 ?_|refine z_4 ?_|refine z_5 ?_|refine z_6 ?_|refine z_7 ?_|refine z_8 ?_|refine z_9 ?_|refine z_a ?_|refine z_b ?_|refine z_d ?_|refine z_e ?_|refine z_f ?_|refine z_g ?_|refine z_h ?_|refine z_i ?_|refine z_j ?_|refine s_a ?_|refine s_s ?_|refine s_n ?_|refine s_i ?_|refine s_f ?_|refine s_b ?_|refine s_d ?_|refine s_l1 ?_|refine s_l2 ?_|refine s_l3 ?_|refine s_l4 ?_|refine s_l5 ?_|refine s_l6 ?_|refine s_l7 ?_|refine s_l8 ?_|refine s_l9 ?_|refine s_g ?_|refine s_q ?_|refine s_e ?_|refine s_j ?_)
  refine o_boxS rfl rfl rfl ?_
  intro b2 w2 hal2
  have hb2 := hal2.blk
  replace hk := hk.keep hal2.kp
  replace hb1 := hb1.keep hal2.kp
  replace he := he.keep hk
  replace hx := hx.keep hk
  replace hy := hy.keep hk
  repeat (first|refine z_1 ?_|refine z_2 ?_|refine s_o ?_|refine z_3 ?_|refine z_4 ?_|refine z_5 ?_|refine z_6 ?_|refine z_7 ?_|refine z_8 ?_|refine z_9 ?_|refine z_a ?_|refine z_b ?_|refine z_d ?_|refine z_e ?_|refine z_f ?_|refine z_g ?_|refine z_h ?_|refine z_i ?_|refine z_j ?_|refine s_a ?_|refine s_s ?_|refine s_n ?_|refine s_i ?_|refine s_f ?_|refine s_b ?_|refine s_d ?_|refine s_l1 ?_|refine s_l2 ?_|refine s_l3 ?_|refine s_l4 ?_|refine s_l5 ?_|refine s_l6 ?_|refine s_l7 ?_|refine s_l8 ?_|refine s_l9 ?_|refine s_g ?_|refine s_q ?_|refine s_e ?_|refine s_j ?_)
  refine o_buildSlice rfl rfl rfl rfl rfl (by intro p hp; cases hp) (by omega) ?_
  intro b3 w3 hal3
  have ho : OwnF intR w3 w2.heap.size 3 (.slice (some ⟨b3, 0, none⟩) 0 0) [] [] := OwnF.made hal3.blk (by have := hal3.b_eq; omega)
  repeat (first|refine z_1 ?_|refine z_2 ?_|refine s_o ?_|refine z_3 ?_|refine z_4 ?_|refine z_5 ?_|refine z_6 ?_|refine z_7 ?_|refine z_8 ?_|refine z_9 ?_|refine z_a ?_|refine z_b ?_|refine z_d ?_|refine z_e ?_|refine z_f ?_|refine z_g ?_|refine z_h ?_|refine z_i ?_|refine z_j ?_|refine s_a ?_|refine s_s ?_|refine s_n ?_|refine s_i ?_|refine s_f ?_|refine s_b ?_|refine s_d ?_|refine s_l1 ?_|refine s_l2 ?_|refine s_l3 ?_|refine s_l4 ?_|refine s_l5 ?_|refine s_l6 ?_|refine s_l7 ?_|refine s_l8 ?_|refine s_l9 ?_|refine s_g ?_|refine s_q ?_|refine s_e ?_|refine s_j ?_)
  refine W_loop (S := Nat × Value) (fun s => [(0, .slice A n c), (4, .pointer (some ⟨b1, 0, none⟩)), (5, .pointer (some ⟨b2, 0, none⟩)), (7, s.2), (8, .int .i64 (s.1 : Int))]) (fun s w' => Keep w2 w' ∧ s.1 ≤ n ∧ OwnF intR w' w2.heap.size 3 s.2 (stk e x y s.1) []) (fun s => n - s.1) (0, _) ⟨rfl, rfl, rfl, rfl, rfl, trivial⟩ ⟨hal3.kp, Nat.zero_le _, by unfold stk; exact ho⟩ ?_
  clear ho hal3 hal2 hal1
  rintro ⟨k, va⟩ wa ⟨hka, hkn, hoa⟩
  dsimp only at hkn hoa ⊢
  replace he := he.keep hka
  replace hx := hx.keep hka
  replace hy := hy.keep hka
  replace hb1 := hb1.keep hka
  replace hb2 := hb2.keep hka
  have hlk : ((stk e x y k).length : Int) = exD e k := stk_len fun i hi => hall i (by omega)
  have hd1 := exD_le e k
  obtain ⟨As, ns, cs, rfl, hns, hnc⟩ := hoa.split
  repeat (first|refine z_1 ?_|refine z_2 ?_|refine s_o ?_|refine z_3 ?_|refine z_4 ?_|refine z_5 ?_|refine z_6 ?_|refine z_7 ?_|refine z_8 ?_|refine z_9 ?_|refine z_a ?_|refine z_b ?_|refine z_d ?_|refine z_e ?_|refine z_f ?_|refine z_g ?_|refine z_h ?_|refine z_i ?_|refine z_j ?_|refine s_a ?_|refine s_s ?_|refine s_n ?_|refine s_i ?_|refine s_f ?_|refine s_b ?_|refine s_d ?_|refine s_l1 ?_|refine s_l2 ?_|refine s_l3 ?_|refine s_l4 ?_|refine s_l5 ?_|refine s_l6 ?_|refine s_l7 ?_|refine s_l8 ?_|refine s_l9 ?_|refine s_g ?_|refine s_q ?_|refine s_e ?_|refine s_j ?_)
  refine W_cond rfl (fun hc => ?_) (fun hc => ?_)
  · have hkl : k < n := by simp at hc; omega
    obtain ⟨hA, vl, ul, f1, f2, hcell, hvl, hul, _⟩ := node_get he (i := (k : Int)) (by omega) (by omega)
    obtain ⟨hop, hdp, how, hon⟩ := exOk_op (hall k (by omega))
    obtain ⟨fo, hso, hfo⟩ := hoa.sl (by decide)
    have hsk := stk_succ e x y k
    have hsc := stkCmp (e := e) x y (n := k) fun i hi => hall i (by omega)
    generalize stk e x y k = S at *
    repeat (first|refine z_1 ?_|refine z_2 ?_|refine s_o ?_|refine z_3 ?_|refine z_4 ?_|refine z_5 ?_|refine z_6 ?_|refine z_7 ?_|refine z_8 ?_|refine z_9 ?_|refine z_a ?_|refine z_b ?_|refine z_d ?_|refine z_e ?_|refine z_f ?_|refine z_g ?_|refine z_h ?_|refine z_i ?_|refine z_j ?_|refine s_a ?_|refine s_s ?_|refine s_n ?_|refine s_i ?_|refine s_f ?_|refine s_b ?_|refine s_d ?_|refine s_l1 ?_|refine s_l2 ?_|refine s_l3 ?_|refine s_l4 ?_|refine s_l5 ?_|refine s_l6 ?_|refine s_l7 ?_|refine s_l8 ?_|refine s_l9 ?_|refine s_g ?_|refine s_q ?_|refine s_e ?_|refine s_j ?_)
    refine W_cond rfl (fun h0 => ?_) (fun h0 => ?_)
    · simp only [decide_eq_true_eq] at h0
      have hw := how h0
      rw [if_pos h0] at hsk
      obtain ⟨hx1, hx2⟩ := wish_at hw ix
      obtain ⟨hy1, hy2⟩ := wish_at hw iy
      obtain ⟨A1, n1, c1, rfl, hn1⟩ := hx.split
      obtain ⟨A2, n2, c2, rfl, hn2⟩ := hy.split
      obtain ⟨hA1, hc1⟩ := hx.getI (i := (gi e (k : Int)).wish.field) (by omega) (by omega)
      obtain ⟨hA2, hc2⟩ := hy.getI (i := (gi e (k : Int)).wish.field) (by omega) (by omega)
      repeat (first|refine z_1 ?_|refine z_2 ?_|refine s_o ?_|refine z_3 ?_|refine z_4 ?_|refine z_5 ?_|refine z_6 ?_|refine z_7 ?_|refine z_8 ?_|refine z_9 ?_|refine z_a ?_|refine z_b ?_|refine z_d ?_|refine z_e ?_|refine z_f ?_|refine z_g ?_|refine z_h ?_|refine z_i ?_|refine z_j ?_|refine s_a ?_|refine s_s ?_|refine s_n ?_|refine s_i ?_|refine s_f ?_|refine s_b ?_|refine s_d ?_|refine s_l1 ?_|refine s_l2 ?_|refine s_l3 ?_|refine s_l4 ?_|refine s_l5 ?_|refine s_l6 ?_|refine s_l7 ?_|refine s_l8 ?_|refine s_l9 ?_|refine s_g ?_|refine s_q ?_|refine s_e ?_|refine s_j ?_)
      refine W_late (Keep wa) [18] (by kernel_rfl) (Keep.drew wa) ?_
      first|refine e_o 0 ?_|refine e_a 0 ?_|refine e_s 0 ?_|refine e_n 0 ?_|refine e_i 0 ?_|refine e_f 0 ?_|refine e_b 0 ?_|refine e_d 0 ?_|refine e_l1 0 ?_|refine e_l2 0 ?_|refine e_l3 0 ?_|refine e_l4 0 ?_|refine e_l5 0 ?_|refine e_l6 0 ?_|refine e_l7 0 ?_|refine e_l8 0 ?_|refine e_l9 0 ?_|refine e_g 0 ?_|refine e_q 0 ?_|refine e_e 0 ?_|refine e_j 0 ?_
      first|refine e_o 1 ?_|refine e_a 1 ?_|refine e_s 1 ?_|refine e_n 1 ?_|refine e_i 1 ?_|refine e_f 1 ?_|refine e_b 1 ?_|refine e_d 1 ?_|refine e_l1 1 ?_|refine e_l2 1 ?_|refine e_l3 1 ?_|refine e_l4 1 ?_|refine e_l5 1 ?_|refine e_l6 1 ?_|refine e_l7 1 ?_|refine e_l8 1 ?_|refine e_l9 1 ?_|refine e_g 1 ?_|refine e_q 1 ?_|refine e_e 1 ?_|refine e_j 1 ?_
      first|refine e_o 2 ?_|refine e_a 2 ?_|refine e_s 2 ?_|refine e_n 2 ?_|refine e_i 2 ?_|refine e_f 2 ?_|refine e_b 2 ?_|refine e_d 2 ?_|refine e_l1 2 ?_|refine e_l2 2 ?_|refine e_l3 2 ?_|refine e_l4 2 ?_|refine e_l5 2 ?_|refine e_l6 2 ?_|refine e_l7 2 ?_|refine e_l8 2 ?_|refine e_l9 2 ?_|refine e_g 2 ?_|refine e_q 2 ?_|refine e_e 2 ?_|refine e_j 2 ?_
      first|refine e_o 3 ?_|refine e_a 3 ?_|refine e_s 3 ?_|refine e_n 3 ?_|refine e_i 3 ?_|refine e_f 3 ?_|refine e_b 3 ?_|refine e_d 3 ?_|refine e_l1 3 ?_|refine e_l2 3 ?_|refine e_l3 3 ?_|refine e_l4 3 ?_|refine e_l5 3 ?_|refine e_l6 3 ?_|refine e_l7 3 ?_|refine e_l8 3 ?_|refine e_l9 3 ?_|refine e_g 3 ?_|refine e_q 3 ?_|refine e_e 3 ?_|refine e_j 3 ?_
      first|refine e_o 4 ?_|refine e_a 4 ?_|refine e_s 4 ?_|refine e_n 4 ?_|refine e_i 4 ?_|refine e_f 4 ?_|refine e_b 4 ?_|refine e_d 4 ?_|refine e_l1 4 ?_|refine e_l2 4 ?_|refine e_l3 4 ?_|refine e_l4 4 ?_|refine e_l5 4 ?_|refine e_l6 4 ?_|refine e_l7 4 ?_|refine e_l8 4 ?_|refine e_l9 4 ?_|refine e_g 4 ?_|refine e_q 4 ?_|refine e_e 4 ?_|refine e_j 4 ?_
      first|refine e_o 5 ?_|refine e_a 5 ?_|refine e_s 5 ?_|refine e_n 5 ?_|refine e_i 5 ?_|refine e_f 5 ?_|refine e_b 5 ?_|refine e_d 5 ?_|refine e_l1 5 ?_|refine e_l2 5 ?_|refine e_l3 5 ?_|refine e_l4 5 ?_|refine e_l5 5 ?_|refine e_l6 5 ?_|refine e_l7 5 ?_|refine e_l8 5 ?_|refine e_l9 5 ?_|refine e_g 5 ?_|refine e_q 5 ?_|refine e_e 5 ?_|refine e_j 5 ?_
      first|refine e_o 6 ?_|refine e_a 6 ?_|refine e_s 6 ?_|refine e_n 6 ?_|refine e_i 6 ?_|refine e_f 6 ?_|refine e_b 6 ?_|refine e_d 6 ?_|refine e_l1 6 ?_|refine e_l2 6 ?_|refine e_l3 6 ?_|refine e_l4 6 ?_|refine e_l5 6 ?_|refine e_l6 6 ?_|refine e_l7 6 ?_|refine e_l8 6 ?_|refine e_l9 6 ?_|refine e_g 6 ?_|refine e_q 6 ?_|refine e_e 6 ?_|refine e_j 6 ?_
      first|refine e_o 7 ?_|refine e_a 7 ?_|refine e_s 7 ?_|refine e_n 7 ?_|refine e_i 7 ?_|refine e_f 7 ?_|refine e_b 7 ?_|refine e_d 7 ?_|refine e_l1 7 ?_|refine e_l2 7 ?_|refine e_l3 7 ?_|refine e_l4 7 ?_|refine e_l5 7 ?_|refine e_l6 7 ?_|refine e_l7 7 ?_|refine e_l8 7 ?_|refine e_l9 7 ?_|refine e_g 7 ?_|refine e_q 7 ?_|refine e_e 7 ?_|refine e_j 7 ?_
      first|refine e_o 8 ?_|refine e_a 8 ?_|refine e_s 8 ?_|refine e_n 8 ?_|refine e_i 8 ?_|refine e_f 8 ?_|refine e_b 8 ?_|refine e_d 8 ?_|refine e_l1 8 ?_|refine e_l2 8 ?_|refine e_l3 8 ?_|refine e_l4 8 ?_|refine e_l5 8 ?_|refine e_l6 8 ?_|refine e_l7 8 ?_|refine e_l8 8 ?_|refine e_l9 8 ?_|refine e_g 8 ?_|refine e_q 8 ?_|refine e_e 8 ?_|refine e_j 8 ?_
      first|refine e_o 9 ?_|refine e_a 9 ?_|refine e_s 9 ?_|refine e_n 9 ?_|refine e_i 9 ?_|refine e_f 9 ?_|refine e_b 9 ?_|refine e_d 9 ?_|refine e_l1 9 ?_|refine e_l2 9 ?_|refine e_l3 9 ?_|refine e_l4 9 ?_|refine e_l5 9 ?_|refine e_l6 9 ?_|refine e_l7 9 ?_|refine e_l8 9 ?_|refine e_l9 9 ?_|refine e_g 9 ?_|refine e_q 9 ?_|refine e_e 9 ?_|refine e_j 9 ?_
      first|refine e_o 10 ?_|refine e_a 10 ?_|refine e_s 10 ?_|refine e_n 10 ?_|refine e_i 10 ?_|refine e_f 10 ?_|refine e_b 10 ?_|refine e_d 10 ?_|refine e_l1 10 ?_|refine e_l2 10 ?_|refine e_l3 10 ?_|refine e_l4 10 ?_|refine e_l5 10 ?_|refine e_l6 10 ?_|refine e_l7 10 ?_|refine e_l8 10 ?_|refine e_l9 10 ?_|refine e_g 10 ?_|refine e_q 10 ?_|refine e_e 10 ?_|refine e_j 10 ?_
      first|refine e_o 11 ?_|refine e_a 11 ?_|refine e_s 11 ?_|refine e_n 11 ?_|refine e_i 11 ?_|refine e_f 11 ?_|refine e_b 11 ?_|refine e_d 11 ?_|refine e_l1 11 ?_|refine e_l2 11 ?_|refine e_l3 11 ?_|refine e_l4 11 ?_|refine e_l5 11 ?_|refine e_l6 11 ?_|refine e_l7 11 ?_|refine e_l8 11 ?_|refine e_l9 11 ?_|refine e_g 11 ?_|refine e_q 11 ?_|refine e_e 11 ?_|refine e_j 11 ?_
      first|refine e_o 12 ?_|refine e_a 12 ?_|refine e_s 12 ?_|refine e_n 12 ?_|refine e_i 12 ?_|refine e_f 12 ?_|refine e_b 12 ?_|refine e_d 12 ?_|refine e_l1 12 ?_|refine e_l2 12 ?_|refine e_l3 12 ?_|refine e_l4 12 ?_|refine e_l5 12 ?_|refine e_l6 12 ?_|refine e_l7 12 ?_|refine e_l8 12 ?_|refine e_l9 12 ?_|refine e_g 12 ?_|refine e_q 12 ?_|refine e_e 12 ?_|refine e_j 12 ?_
      first|refine e_o 13 ?_|refine e_a 13 ?_|refine e_s 13 ?_|refine e_n 13 ?_|refine e_i 13 ?_|refine e_f 13 ?_|refine e_b 13 ?_|refine e_d 13 ?_|refine e_l1 13 ?_|refine e_l2 13 ?_|refine e_l3 13 ?_|refine e_l4 13 ?_|refine e_l5 13 ?_|refine e_l6 13 ?_|refine e_l7 13 ?_|refine e_l8 13 ?_|refine e_l9 13 ?_|refine e_g 13 ?_|refine e_q 13 ?_|refine e_e 13 ?_|refine e_j 13 ?_
      first|refine e_o 14 ?_|refine e_a 14 ?_|refine e_s 14 ?_|refine e_n 14 ?_|refine e_i 14 ?_|refine e_f 14 ?_|refine e_b 14 ?_|refine e_d 14 ?_|refine e_l1 14 ?_|refine e_l2 14 ?_|refine e_l3 14 ?_|refine e_l4 14 ?_|refine e_l5 14 ?_|refine e_l6 14 ?_|refine e_l7 14 ?_|refine e_l8 14 ?_|refine e_l9 14 ?_|refine e_g 14 ?_|refine e_q 14 ?_|refine e_e 14 ?_|refine e_j 14 ?_
      first|refine e_o 15 ?_|refine e_a 15 ?_|refine e_s 15 ?_|refine e_n 15 ?_|refine e_i 15 ?_|refine e_f 15 ?_|refine e_b 15 ?_|refine e_d 15 ?_|refine e_l1 15 ?_|refine e_l2 15 ?_|refine e_l3 15 ?_|refine e_l4 15 ?_|refine e_l5 15 ?_|refine e_l6 15 ?_|refine e_l7 15 ?_|refine e_l8 15 ?_|refine e_l9 15 ?_|refine e_g 15 ?_|refine e_q 15 ?_|refine e_e 15 ?_|refine e_j 15 ?_
      have kd : Keep wa wa.drew := Keep.drew wa
      replace hvl := hvl.keep kd
      replace hul := hul.keep kd
      replace hoa := hoa.keep kd
      replace hka := hka.keep kd
      refine WE_one 16 (by kernel_rfl) rfl ?_
      refine o_call rfl rfl rfl (l4Compare_ok hvl hul hw hx2 hy2) ?_
      rintro _ w4 ⟨rfl, hk4⟩
      replace kd := kd.keep hk4
      replace hoa := hoa.keep hk4
      replace hka := hka.keep hk4
      refine WL_end ⟨kd, ?_⟩
      refine WE_one 17 (by kernel_rfl) rfl ?_
      refine o_buildSlice rfl rfl rfl rfl rfl (by simp [Value.cells]) (by omega) ?_
      intro b5 w5 hal5
      have hkz := hka.size_le
      have hz5 := hal5.size
      replace hoa := hoa.keep hal5.kp
      replace hka := hka.keep hal5.kp
      refine WL_end ⟨kd.keep hal5.kp, ?_⟩
      refine WE_last 18 (by kernel_rfl) rfl (by kernel_rfl) ?_
      refine o_appendF (R := intR) (M := _) (gi := []) rfl rfl rfl rfl rfl (by decide) hoa (Blk.src (xs := [cmpV (gi e (k : Int)).wish (gi x.vals (gi e (k : Int)).wish.field) (gi y.vals (gi e (k : Int)).wish.field)]) hal5.blk (Rows.ints _ _)) rfl (Fresh.nil _ _) (fun b hb => by simp at hb) (fun b hb => (hoa.lt hb).2) (fun b hb => by simp at hb) (by simp only [List.length_cons, List.length_nil]; omega) (by simp only [List.length_cons, List.length_nil]; omega) (by omega) ?_
      intro v6 w6 ho6 hb6 hg6
      have hk6 : Keep w2 w6 := hka.grown hg6 (fun b hb => (hoa.lt hb).1)
      refine WL_end ?_
      first|refine e_o 19 ?_|refine e_a 19 ?_|refine e_s 19 ?_|refine e_n 19 ?_|refine e_i 19 ?_|refine e_f 19 ?_|refine e_b 19 ?_|refine e_d 19 ?_|refine e_l1 19 ?_|refine e_l2 19 ?_|refine e_l3 19 ?_|refine e_l4 19 ?_|refine e_l5 19 ?_|refine e_l6 19 ?_|refine e_l7 19 ?_|refine e_l8 19 ?_|refine e_l9 19 ?_|refine e_g 19 ?_|refine e_q 19 ?_|refine e_e 19 ?_|refine e_j 19 ?_
      refine WE_done (by kernel_rfl) ?_
      repeat (first|refine z_1 ?_|refine z_2 ?_|refine s_o ?_|refine z_3 ?_|refine z_4 ?_|refine z_5 ?_|refine z_6 ?_|refine z_7 ?_|refine z_8 ?_|refine z_9 ?_|refine z_a ?_|refine z_b ?_|refine z_d ?_|refine z_e ?_|refine z_f ?_|refine z_g ?_|refine z_h ?_|refine z_i ?_|refine z_j ?_|refine s_a ?_|refine s_s ?_|refine s_n ?_|refine s_i ?_|refine s_f ?_|refine s_b ?_|refine s_d ?_|refine s_l1 ?_|refine s_l2 ?_|refine s_l3 ?_|refine s_l4 ?_|refine s_l5 ?_|refine s_l6 ?_|refine s_l7 ?_|refine s_l8 ?_|refine s_l9 ?_|refine s_g ?_|refine s_q ?_|refine s_e ?_|refine s_j ?_)
      exact ⟨(k + 1, v6), ⟨rfl, rfl, rfl, rfl, rfl, trivial⟩, ⟨hk6, by dsimp only; omega, by dsimp only; rw [hsk, itemCmp_def]; exact ho6⟩, by dsimp only; omega⟩
    simp only [decide_eq_false_iff_not] at h0
    rw [if_neg h0] at hsk
    repeat (first|refine z_1 ?_|refine z_2 ?_|refine s_o ?_|refine z_3 ?_|refine z_4 ?_|refine z_5 ?_|refine z_6 ?_|refine z_7 ?_|refine z_8 ?_|refine z_9 ?_|refine z_a ?_|refine z_b ?_|refine z_d ?_|refine z_e ?_|refine z_f ?_|refine z_g ?_|refine z_h ?_|refine z_i ?_|refine z_j ?_|refine s_a ?_|refine s_s ?_|refine s_n ?_|refine s_i ?_|refine s_f ?_|refine s_b ?_|refine s_d ?_|refine s_l1 ?_|refine s_l2 ?_|refine s_l3 ?_|refine s_l4 ?_|refine s_l5 ?_|refine s_l6 ?_|refine s_l7 ?_|refine s_l8 ?_|refine s_l9 ?_|refine s_g ?_|refine s_q ?_|refine s_e ?_|refine s_j ?_)
    refine W_cond rfl (fun h3 => ?_) (fun h3 => ?_)
    · simp only [decide_eq_true_eq] at h3
      rw [if_pos h3] at hsk
      have hd3 : opnds (gi e (k : Int)).op = 1 := by rw [h3]; rfl
      have hSn : S ≠ [] := fun e => by rw [e] at hlk; simp at hlk; omega
      obtain ⟨bo, cap, cl, hve, hbo, hbl, hcl, hcap, hcg, hst⟩ := hoa.stI hSn
      simp only [Value.slice.injEq] at hve
      obtain ⟨rfl, rfl, rfl⟩ := hve
      have hpos : 0 < S.length := List.length_pos_iff.2 hSn
      have hci : Cell wa (ea (some ⟨bo, 0, none⟩) 1 ((S.length : Int) - 1)) (.int .i64 (gi S ((S.length - 1 : Nat) : Int))) := by
        rw [show (S.length : Int) - 1 = ((S.length - 1 : Nat) : Int) by omega, ea_blk]
        exact hbl.cell (by rw [Nat.zero_add, Nat.mul_one]; exact hcg _ (by omega))
      have hcm := hsc _ (gi_in (xs := S) (i := S.length - 1) (by omega))
      repeat (first|refine z_1 ?_|refine z_2 ?_|refine s_o ?_|refine z_3 ?_|refine z_4 ?_|refine z_5 ?_|refine z_6 ?_|refine z_7 ?_|refine z_8 ?_|refine z_9 ?_|refine z_a ?_|refine z_b ?_|refine z_d ?_|refine z_e ?_|refine z_f ?_|refine z_g ?_|refine z_h ?_|refine z_i ?_|refine z_j ?_|refine s_a ?_|refine s_s ?_|refine s_n ?_|refine s_i ?_|refine s_f ?_|refine s_b ?_|refine s_d ?_|refine s_l1 ?_|refine s_l2 ?_|refine s_l3 ?_|refine s_l4 ?_|refine s_l5 ?_|refine s_l6 ?_|refine s_l7 ?_|refine s_l8 ?_|refine s_l9 ?_|refine s_g ?_|refine s_q ?_|refine s_e ?_|refine s_j ?_)
      refine W_cond rfl (fun h2 => ?_) (fun h2 => ?_)
      · simp only [decide_eq_true_eq] at h2
        have hdu : dual (gi S ((S.length - 1 : Nat) : Int)) = - gi S ((S.length - 1 : Nat) : Int) := by rw [dual, if_neg h2]
        repeat (first|refine z_1 ?_|refine z_2 ?_|refine s_o ?_|refine z_3 ?_|refine z_4 ?_|refine z_5 ?_|refine z_6 ?_|refine z_7 ?_|refine z_8 ?_|refine z_9 ?_|refine z_a ?_|refine z_b ?_|refine z_d ?_|refine z_e ?_|refine z_f ?_|refine z_g ?_|refine z_h ?_|refine z_i ?_|refine z_j ?_|refine s_a ?_|refine s_s ?_|refine s_n ?_|refine s_i ?_|refine s_f ?_|refine s_b ?_|refine s_d ?_|refine s_l1 ?_|refine s_l2 ?_|refine s_l3 ?_|refine s_l4 ?_|refine s_l5 ?_|refine s_l6 ?_|refine s_l7 ?_|refine s_l8 ?_|refine s_l9 ?_|refine s_g ?_|refine s_q ?_|refine s_e ?_|refine s_j ?_)
        refine WL_pure rfl rfl (o_neg rfl (by rcases hcm with h | h | h | h <;> rw [h] <;> omega)) ?_
        repeat (first|refine z_1 ?_|refine z_2 ?_|refine s_o ?_|refine z_3 ?_|refine z_4 ?_|refine z_5 ?_|refine z_6 ?_|refine z_7 ?_|refine z_8 ?_|refine z_9 ?_|refine z_a ?_|refine z_b ?_|refine z_d ?_|refine z_e ?_|refine z_f ?_|refine z_g ?_|refine z_h ?_|refine z_i ?_|refine z_j ?_|refine s_a ?_|refine s_s ?_|refine s_n ?_|refine s_i ?_|refine s_f ?_|refine s_b ?_|refine s_d ?_|refine s_l1 ?_|refine s_l2 ?_|refine s_l3 ?_|refine s_l4 ?_|refine s_l5 ?_|refine s_l6 ?_|refine s_l7 ?_|refine s_l8 ?_|refine s_l9 ?_|refine s_g ?_|refine s_q ?_|refine s_e ?_|refine s_j ?_)
        refine o_store1 (off := S.length - 1) rfl rfl (by rw [show (S.length : Int) - 1 = ((S.length - 1 : Nat) : Int) by omega, ea_blk]; simp) rfl rfl hbl (by omega) ?_
        intro w4 hu4
        have ho4 := hst w4 (S.length - 1) _ (by omega) hu4
        repeat (first|refine z_1 ?_|refine z_2 ?_|refine s_o ?_|refine z_3 ?_|refine z_4 ?_|refine z_5 ?_|refine z_6 ?_|refine z_7 ?_|refine z_8 ?_|refine z_9 ?_|refine z_a ?_|refine z_b ?_|refine z_d ?_|refine z_e ?_|refine z_f ?_|refine z_g ?_|refine z_h ?_|refine z_i ?_|refine z_j ?_|refine s_a ?_|refine s_s ?_|refine s_n ?_|refine s_i ?_|refine s_f ?_|refine s_b ?_|refine s_d ?_|refine s_l1 ?_|refine s_l2 ?_|refine s_l3 ?_|refine s_l4 ?_|refine s_l5 ?_|refine s_l6 ?_|refine s_l7 ?_|refine s_l8 ?_|refine s_l9 ?_|refine s_g ?_|refine s_q ?_|refine s_e ?_|refine s_j ?_)
        exact ⟨(k + 1, _), ⟨rfl, rfl, rfl, rfl, rfl, trivial⟩, ⟨hka.upd hu4 hbo, by dsimp only; omega, by dsimp only; rw [hsk, hdu]; exact ho4⟩, by dsimp only; omega⟩
      · simp only [decide_eq_false_iff_not, Classical.not_not] at h2
        have hdu : dual (gi S ((S.length - 1 : Nat) : Int)) = gi S ((S.length - 1 : Nat) : Int) := by rw [dual, if_pos h2, h2]
        repeat (first|refine z_1 ?_|refine z_2 ?_|refine s_o ?_|refine z_3 ?_|refine z_4 ?_|refine z_5 ?_|refine z_6 ?_|refine z_7 ?_|refine z_8 ?_|refine z_9 ?_|refine z_a ?_|refine z_b ?_|refine z_d ?_|refine z_e ?_|refine z_f ?_|refine z_g ?_|refine z_h ?_|refine z_i ?_|refine z_j ?_|refine s_a ?_|refine s_s ?_|refine s_n ?_|refine s_i ?_|refine s_f ?_|refine s_b ?_|refine s_d ?_|refine s_l1 ?_|refine s_l2 ?_|refine s_l3 ?_|refine s_l4 ?_|refine s_l5 ?_|refine s_l6 ?_|refine s_l7 ?_|refine s_l8 ?_|refine s_l9 ?_|refine s_g ?_|refine s_q ?_|refine s_e ?_|refine s_j ?_)
        exact ⟨(k + 1, _), ⟨rfl, rfl, rfl, rfl, rfl, trivial⟩, ⟨hka, by dsimp only; omega, by dsimp only; rw [hsk, hdu, set_gi (by omega)]; exact hoa⟩, by dsimp only; omega⟩
    simp only [decide_eq_false_iff_not] at h3
    rw [if_neg h3] at hsk
    have hd2 : opnds (gi e (k : Int)).op = 2 := by rw [opnds, if_neg h0, if_neg h3]
    have hS2 : 2 ≤ S.length := by omega
    obtain ⟨hAs, hp1⟩ := hso.getI (i := (ns : Int) - 2) (by omega) (by omega)
    obtain ⟨_, hp2⟩ := hso.getI (i := (ns : Int) - 1) (by omega) (by omega)
    have e1 : (ns : Int) - 2 = ((S.length - 2 : Nat) : Int) := by omega
    have e2 : (ns : Int) - 1 = ((S.length - 1 : Nat) : Int) := by omega
    have hm1 := hsc _ (gi_in (xs := S) (i := S.length - 2) (by omega))
    have hm2 := hsc _ (gi_in (xs := S) (i := S.length - 1) (by omega))
    rw [← e1] at hm1
    rw [← e2] at hm2
    rw [← e1, ← e2] at hsk
    repeat (first|refine z_1 ?_|refine z_2 ?_|refine s_o ?_|refine z_3 ?_|refine z_4 ?_|refine z_5 ?_|refine z_6 ?_|refine z_7 ?_|refine z_8 ?_|refine z_9 ?_|refine z_a ?_|refine z_b ?_|refine z_d ?_|refine z_e ?_|refine z_f ?_|refine z_g ?_|refine z_h ?_|refine z_i ?_|refine z_j ?_|refine s_a ?_|refine s_s ?_|refine s_n ?_|refine s_i ?_|refine s_f ?_|refine s_b ?_|refine s_d ?_|refine s_l1 ?_|refine s_l2 ?_|refine s_l3 ?_|refine s_l4 ?_|refine s_l5 ?_|refine s_l6 ?_|refine s_l7 ?_|refine s_l8 ?_|refine s_l9 ?_|refine s_g ?_|refine s_q ?_|refine s_e ?_|refine s_j ?_)
    refine W_quiet (Keep wa) (by kernel_rfl) (by kernel_rfl) (Keep.drew _) ?_
    repeat (first|refine q_o ?_|refine z_k ?_|refine q_a ?_|refine q_s ?_|refine q_n ?_|refine q_i ?_|refine q_f ?_|refine q_b ?_|refine q_d ?_|refine q_l1 ?_|refine q_l2 ?_|refine q_l3 ?_|refine q_l4 ?_|refine q_l5 ?_|refine q_l6 ?_|refine q_l7 ?_|refine q_l8 ?_|refine q_l9 ?_|refine q_g ?_|refine q_q ?_|refine q_e ?_|refine q_j ?_|refine z_l ?_)
    refine WQ_call rfl rfl rfl (fun w' hw' => (l5Op_ok hm1 hm2).kp hw') ?_
    repeat (first|refine q_o ?_|refine z_k ?_|refine q_a ?_|refine q_s ?_|refine q_n ?_|refine q_i ?_|refine q_f ?_|refine q_b ?_|refine q_d ?_|refine q_l1 ?_|refine q_l2 ?_|refine q_l3 ?_|refine q_l4 ?_|refine q_l5 ?_|refine q_l6 ?_|refine q_l7 ?_|refine q_l8 ?_|refine q_l9 ?_|refine q_g ?_|refine q_q ?_|refine q_e ?_|refine q_j ?_|refine z_l ?_)
    intro w4 hk4 
    replace hoa := hoa.keep hk4
    replace hka := hka.keep hk4
    have hkz := hka.size_le
    repeat (first|refine z_1 ?_|refine z_2 ?_|refine s_o ?_|refine z_3 ?_|refine z_4 ?_|refine z_5 ?_|refine z_6 ?_|refine z_7 ?_|refine z_8 ?_|refine z_9 ?_|refine z_a ?_|refine z_b ?_|refine z_d ?_|refine z_e ?_|refine z_f ?_|refine z_g ?_|refine z_h ?_|refine z_i ?_|refine z_j ?_|refine s_a ?_|refine s_s ?_|refine s_n ?_|refine s_i ?_|refine s_f ?_|refine s_b ?_|refine s_d ?_|refine s_l1 ?_|refine s_l2 ?_|refine s_l3 ?_|refine s_l4 ?_|refine s_l5 ?_|refine s_l6 ?_|refine s_l7 ?_|refine s_l8 ?_|refine s_l9 ?_|refine s_g ?_|refine s_q ?_|refine s_e ?_|refine s_j ?_)
    refine WL_pure rfl rfl (o_slice_hi (h := ns - 2) rfl (find_int rfl (by omega)) (by omega)) ?_
    repeat (first|refine z_1 ?_|refine z_2 ?_|refine s_o ?_|refine z_3 ?_|refine z_4 ?_|refine z_5 ?_|refine z_6 ?_|refine z_7 ?_|refine z_8 ?_|refine z_9 ?_|refine z_a ?_|refine z_b ?_|refine z_d ?_|refine z_e ?_|refine z_f ?_|refine z_g ?_|refine z_h ?_|refine z_i ?_|refine z_j ?_|refine s_a ?_|refine s_s ?_|refine s_n ?_|refine s_i ?_|refine s_f ?_|refine s_b ?_|refine s_d ?_|refine s_l1 ?_|refine s_l2 ?_|refine s_l3 ?_|refine s_l4 ?_|refine s_l5 ?_|refine s_l6 ?_|refine s_l7 ?_|refine s_l8 ?_|refine s_l9 ?_|refine s_g ?_|refine s_q ?_|refine s_e ?_|refine s_j ?_)
    have hoc := hoa.cutI (k := ns - 2) (by omega)
    refine o_buildSlice rfl rfl rfl rfl rfl (by simp [Value.cells]) (by omega) ?_
    intro b5 w5 hal5
    have hz5 := hal5.size
    replace hoc := hoc.keep hal5.kp
    replace hka := hka.keep hal5.kp
    repeat (first|refine z_1 ?_|refine z_2 ?_|refine s_o ?_|refine z_3 ?_|refine z_4 ?_|refine z_5 ?_|refine z_6 ?_|refine z_7 ?_|refine z_8 ?_|refine z_9 ?_|refine z_a ?_|refine z_b ?_|refine z_d ?_|refine z_e ?_|refine z_f ?_|refine z_g ?_|refine z_h ?_|refine z_i ?_|refine z_j ?_|refine s_a ?_|refine s_s ?_|refine s_n ?_|refine s_i ?_|refine s_f ?_|refine s_b ?_|refine s_d ?_|refine s_l1 ?_|refine s_l2 ?_|refine s_l3 ?_|refine s_l4 ?_|refine s_l5 ?_|refine s_l6 ?_|refine s_l7 ?_|refine s_l8 ?_|refine s_l9 ?_|refine s_g ?_|refine s_q ?_|refine s_e ?_|refine s_j ?_)
    refine o_appendF (R := intR) (M := _) (gi := []) rfl rfl rfl rfl rfl (by decide) hoc (Blk.src (xs := [comb (gi e (k : Int)).op (gi S ((ns : Int) - 2)) (gi S ((ns : Int) - 1))]) hal5.blk (Rows.ints _ _)) rfl (Fresh.nil _ _) (fun b hb => by simp at hb) (fun b hb => (hoc.lt hb).2) (fun b hb => by simp at hb) (by rw [List.length_take]; simp only [List.length_cons, List.length_nil]; omega) (by rw [List.length_take]; simp only [List.length_cons, List.length_nil]; omega) (by omega) ?_
    intro v6 w6 ho6 hb6 hg6
    have hk6 : Keep w2 w6 := hka.grown hg6 (fun b hb => (hoc.lt hb).1)
    repeat (first|refine z_1 ?_|refine z_2 ?_|refine s_o ?_|refine z_3 ?_|refine z_4 ?_|refine z_5 ?_|refine z_6 ?_|refine z_7 ?_|refine z_8 ?_|refine z_9 ?_|refine z_a ?_|refine z_b ?_|refine z_d ?_|refine z_e ?_|refine z_f ?_|refine z_g ?_|refine z_h ?_|refine z_i ?_|refine z_j ?_|refine s_a ?_|refine s_s ?_|refine s_n ?_|refine s_i ?_|refine s_f ?_|refine s_b ?_|refine s_d ?_|refine s_l1 ?_|refine s_l2 ?_|refine s_l3 ?_|refine s_l4 ?_|refine s_l5 ?_|refine s_l6 ?_|refine s_l7 ?_|refine s_l8 ?_|refine s_l9 ?_|refine s_g ?_|refine s_q ?_|refine s_e ?_|refine s_j ?_)
    exact ⟨(k + 1, v6), ⟨rfl, rfl, rfl, rfl, rfl, trivial⟩, ⟨hk6, by dsimp only; omega, by dsimp only; rw [hsk, ← hns]; exact ho6⟩, by dsimp only; omega⟩
  · simp at hc
    obtain rfl : k = n := by omega
    obtain ⟨fo, hso, hfo⟩ := hoa.sl (by decide)
    have hl1 : (stk e x y k).length = 1 := by rw [hnx] at hlk ⊢; omega
    obtain ⟨hAs, hp1⟩ := hso.getI (i := 0) (by omega) (by omega)
    repeat (first|refine z_1 ?_|refine z_2 ?_|refine s_o ?_|refine z_3 ?_|refine z_4 ?_|refine z_5 ?_|refine z_6 ?_|refine z_7 ?_|refine z_8 ?_|refine z_9 ?_|refine z_a ?_|refine z_b ?_|refine z_d ?_|refine z_e ?_|refine z_f ?_|refine z_g ?_|refine z_h ?_|refine z_i ?_|refine z_j ?_|refine s_a ?_|refine s_s ?_|refine s_n ?_|refine s_i ?_|refine s_f ?_|refine s_b ?_|refine s_d ?_|refine s_l1 ?_|refine s_l2 ?_|refine s_l3 ?_|refine s_l4 ?_|refine s_l5 ?_|refine s_l6 ?_|refine s_l7 ?_|refine s_l8 ?_|refine s_l9 ?_|refine s_g ?_|refine s_q ?_|refine s_e ?_|refine s_j ?_)
    exact ret1 rfl rfl ⟨by rw [cmpE, ← hnx], hk.keep hka⟩
end Go.E

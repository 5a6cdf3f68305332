/-
  Contracts: the greedy set of items, by the program. Conditions: none.
-/
import Derived.Test.YtoemiahnilmdlaaRe
set_option linter.unusedVariables false
set_option linter.unusedSimpArgs false
namespace Go.E
open Go Go.RowKit Go.Proofs
theorem OwnF.base {α : Type} {R : Rp α} {w : World} {base base' : Nat} {el : TypeId} {v : Value} {xs : List α} {fi : List Nat} (h : OwnF R w base el v xs fi) (hb : base' ≤ base) : OwnF R w base' el v xs fi := by
  obtain ⟨⟨cells, ⟨hl, h1⟩, h2⟩, h3, h4⟩ := h
  refine ⟨⟨cells, ⟨hl, ?_⟩, h2⟩, h3.mono hb, h4⟩
  rcases h1 with h1 | ⟨b, cap, cur, e, hbb, hr⟩
  · exact .inl h1
  · exact .inr ⟨b, cap, cur, e, Nat.le_trans hb hbb, hr⟩
attribute [local irreducible] W WL WD WE thenE inE retQ PureOp Keep Cell Cells Blk Sl Rows Own Src Fresh
attribute [local irreducible] regret pickSt greedyN

set_option maxHeartbeats 1000000 in
theorem impl_GreedySet_ok {w : World} {v : Value} {L : List Itm} {fp : List Nat} (hL : Sl itemR w v L fp) (size : Int) :
    Run Try.prog 35 [v, .int .i64 size] w (fun r w' => Keep w w' ∧ ∃ fp, Sl intR w' r (greedy L size) fp ∧ Fresh w.heap.size w' fp) := by
  obtain ⟨A, n, c, rfl, hnx⟩ := hL.split
  refine Run_intro Try.func35 (by unfold CallOk; kernel_rfl) rfl Try.ntmps35 (Nat.le_of_ble_eq_true rfl) ?_
  simp only [penv, Nat.reduceAdd, Nat.zero_add]
  repeat refine zz ?_
  refine o_buildSlice rfl rfl rfl rfl rfl (by intro p hp; cases hp) (by omega) ?_
  intro b0 w1 hal
  have hk := hal.kp
  have ho1 : OwnF intR w1 w.heap.size 3 (.slice (some ⟨b0, 0, none⟩) 0 0) [] [] := OwnF.made hal.blk (by have := hal.b_eq; omega)
  have hsl0 := ho1.sl (by decide)
  repeat refine zz ?_
  refine o_call rfl rfl rfl (impl_AreItems_ok (hL.keep hk)) ?_
  rintro _ w1' ⟨rfl, hk1'⟩
  replace ho1 := ho1.keep hk1'
  replace hk := hk.keep hk1'
  repeat refine zz ?_
  refine W_cond rfl (fun h3 => ?_) (fun h3 => ?_)
  · repeat refine zz ?_
    simp at h3
    obtain ⟨fp, hs, hf⟩ := ho1.sl (by decide)
    exact ret1 rfl rfl ⟨hk, fp, by rw [greedy, h3]; unfold greedyN; exact hs, hf⟩
  simp at h3
  have hln : L.length ≤ 16 := by simp [areItems] at h3; exact h3.2
  repeat refine zz ?_
  refine W_loop (S := Nat × Value) (fun s => [(0, .slice A n c), (1, .int .i64 size), (5, s.2)]) (fun s w' => Keep w w' ∧ s.1 ≤ n ∧ (0 < s.1 → (s.1 : Int) ≤ size ∧ areItems L = true) ∧ OwnF intR w' w.heap.size 3 s.2 (greedyN L s.1) []) (fun s => n - s.1) (0, _) ⟨rfl, rfl, rfl, trivial⟩ ⟨hk, by omega, fun h => absurd h (by omega), by unfold greedyN; exact ho1⟩ ?_
  rintro ⟨m, va⟩ w2 ⟨hk2, hm, hpos, ho2⟩
  dsimp only at hm hpos ho2 ⊢
  replace hL := hL.keep hk2
  obtain ⟨Ao, no, co, rfl, hno, _⟩ := ho2.split
  rw [greedyN_len] at hno
  subst hno
  have hgo := fun h => greedy_stop (L := L) (size := size) (k := no) (by omega) hpos h
  repeat refine zz ?_
  refine WL_part rfl rfl (fun h1 => ?_) (fun h1 => ?_)
  · simp at h1
    repeat refine zz ?_
    refine W_cond rfl (fun h2 => ?_) (fun h2 => ?_)
    · simp at h2
      repeat refine zz ?_
      refine W_loop (S := Nat) (fun k => [(0, .slice A n c), (1, .int .i64 size), (5, .slice Ao no co), (6, .int .i64 (pickSt L (greedyN L no) k).1), (7, .int .i64 (pickSt L (greedyN L no) k).2.1), (8, .int .i64 (pickSt L (greedyN L no) k).2.2), (30, .slice A n c), (31, .int .i64 n), (32, .int .i64 (k : Int))]) (fun k w' => Keep w2 w' ∧ k ≤ n) (fun k => n - k) 0 ⟨rfl, rfl, rfl, find_int rfl (by unfold pickSt; rfl), find_int rfl (by unfold pickSt; rfl), find_int rfl (by unfold pickSt; rfl), rfl, rfl, rfl, trivial⟩ ⟨Keep.refl _, by omega⟩ ?_
      rintro k w4 ⟨hk4, hkn⟩
      replace hL := hL.keep hk4
      replace hk2 := hk2.keep hk4
      replace ho2 := ho2.keep hk4
      repeat refine zz ?_
      refine W_cond rfl (fun hc => ?_) (fun hc => ?_)
      · have hkl : k < n := by simp at hc; omega
        obtain ⟨hA, u, f, hcell, hu, _⟩ := item_get hL (i := (k : Int)) (by omega) (by omega)
        have hdu := hu.dom
        have hkz := hk2.size_le
        have hkz4 := hk4.size_le
        have ho20 := ho2
        have hdx := hL.dom
        repeat refine zz ?_
        refine o_alloc rfl rfl ?_
        intro b10 wa hala
        have hb10 := hala.blk
        have hs10 := hala.b_eq
        replace hu := hu.keep hala.kp
        replace hL := hL.keep hala.kp
        replace hk2 := hk2.keep hala.kp
        replace hk4 := hk4.keep hala.kp
        replace ho2 := ho2.keep hala.kp
        repeat refine zz ?_
        refine o_storeS (b := b10) (off := 0) rfl rfl rfl rfl (fun v hv => ?_) rfl hb10 (by simp) ?_
        · simp only [List.mem_cons, List.not_mem_nil, or_false] at hv
          rcases hv with rfl | rfl
          · rfl
          · exact hu.oneCell
        intro w4' hub
        replace hb10 : Blk w4' b10 _ [.int .i64 (gi L (k : Int)).id, u] := hub.blk
        replace hk2 := hk2.upd hub (by omega)
        replace hk4 := hk4.upd hub (by omega)
        replace ho2 := ho2.upd hub (fun e => by have := (ho20.lt e).2; omega) (fun hm => by simp at hm)
        replace hL := hL.upd hub (fun hm => by have := hdx _ hm; omega)
        clear hcell
        obtain ⟨fo, hso, hfo⟩ := ho2.sl (by decide)
        have hpb := pickSt_bd L (greedyN L no) k
        repeat refine zz ?_
        refine o_call rfl rfl rfl (slices_Contains_ok hso) ?_
        rintro _ _ ⟨rfl, rfl⟩
        repeat refine zz ?_
        refine W_cond rfl (fun hh => ?_) (fun hh => ?_)
        · repeat refine zz ?_
          have e : pickSt L (greedyN L no) (k + 1) = pickSt L (greedyN L no) k := by rw [pickSt_succ, if_pos hh]
          exact ⟨k + 1, ⟨rfl, rfl, rfl, find_int rfl (by rw [e]), find_int rfl (by rw [e]), find_int rfl (by rw [e]), rfl, rfl, rfl, trivial⟩, ⟨hk4, by omega⟩, by omega⟩
        · repeat refine zz ?_
          have hgl := greedyN_len L no
          have hrb := regret_bd L (greedyN L no ++ [(gi L (k : Int)).id])
          refine W_draw (Keep w4') (by kernel_rfl) ?_
          have hS : Keep w4' (World.drew w4') := Keep.drew w4'
          have hS0 := hS.size_le
          first|refine d_o 0 ?_|refine d_a 0 ?_|refine d_s 0 ?_|refine d_n 0 ?_|refine d_i 0 ?_|refine d_f 0 ?_|refine d_b 0 ?_|refine d_d 0 ?_|refine d_l1 0 ?_|refine d_l2 0 ?_|refine d_l3 0 ?_|refine d_l4 0 ?_|refine d_l5 0 ?_|refine d_l6 0 ?_|refine d_l7 0 ?_|refine d_l8 0 ?_|refine d_l9 0 ?_|refine d_g 0 ?_|refine d_q 0 ?_|refine d_e 0 ?_|refine d_j 0 ?_
          first|refine d_o 1 ?_|refine d_a 1 ?_|refine d_s 1 ?_|refine d_n 1 ?_|refine d_i 1 ?_|refine d_f 1 ?_|refine d_b 1 ?_|refine d_d 1 ?_|refine d_l1 1 ?_|refine d_l2 1 ?_|refine d_l3 1 ?_|refine d_l4 1 ?_|refine d_l5 1 ?_|refine d_l6 1 ?_|refine d_l7 1 ?_|refine d_l8 1 ?_|refine d_l9 1 ?_|refine d_g 1 ?_|refine d_q 1 ?_|refine d_e 1 ?_|refine d_j 1 ?_
          first|refine d_o 3 ?_|refine d_a 3 ?_|refine d_s 3 ?_|refine d_n 3 ?_|refine d_i 3 ?_|refine d_f 3 ?_|refine d_b 3 ?_|refine d_d 3 ?_|refine d_l1 3 ?_|refine d_l2 3 ?_|refine d_l3 3 ?_|refine d_l4 3 ?_|refine d_l5 3 ?_|refine d_l6 3 ?_|refine d_l7 3 ?_|refine d_l8 3 ?_|refine d_l9 3 ?_|refine d_g 3 ?_|refine d_q 3 ?_|refine d_e 3 ?_|refine d_j 3 ?_
          first|refine d_o 4 ?_|refine d_a 4 ?_|refine d_s 4 ?_|refine d_n 4 ?_|refine d_i 4 ?_|refine d_f 4 ?_|refine d_b 4 ?_|refine d_d 4 ?_|refine d_l1 4 ?_|refine d_l2 4 ?_|refine d_l3 4 ?_|refine d_l4 4 ?_|refine d_l5 4 ?_|refine d_l6 4 ?_|refine d_l7 4 ?_|refine d_l8 4 ?_|refine d_l9 4 ?_|refine d_g 4 ?_|refine d_q 4 ?_|refine d_e 4 ?_|refine d_j 4 ?_
          refine WD_two 2 5  (by kernel_rfl) rfl rfl ?_ ?_
          · refine o_call rfl rfl rfl (copyInts_own (hso.keep hS) (by omega)) ?_
            rintro v5 w5 ⟨hk5, ho5⟩
            replace ho5 := ho5.base (base' := w4'.heap.size) (by have := hS.size_le; omega)
            replace hS := hS.keep hk5
            have hS5 := hS.size_le
            try replace hb7 := hb7.keep hk5
            refine WL_end ⟨hS, ?_⟩
            refine WD_one 5 (by kernel_rfl) rfl ?_
            refine o_buildSlice rfl rfl rfl rfl rfl (by simp [Value.cells]) (by omega) ?_
            intro b7 w7 hal7
            replace hS := hS.keep hal7.kp
            have hS7 := hS.size_le
            have hb7 := hal7.blk
            try replace ho5 := ho5.keep hal7.kp
            refine WL_end ⟨hS, ?_⟩
            refine WD_one 6 (by kernel_rfl) rfl ?_
            refine o_appendF (R := intR) (M := _) (gi := []) rfl rfl rfl rfl rfl (by decide) ho5 (Blk.src (xs := [(gi L (k : Int)).id]) hb7 (Rows.ints _ _)) rfl (Fresh.nil _ _) (fun b hb => by simp at hb) (fun b hb => (ho5.lt hb).2) (fun b hb => by simp at hb) (by simp only [List.length_cons, List.length_nil]; omega) (by simp only [List.length_cons, List.length_nil]; omega) (by omega) ?_
            intro v8 w8 ho8 hb8 hg8
            replace hS := hS.grown hg8 (fun b hb => (ho5.lt hb).1)
            obtain ⟨f8, hs8, hf8⟩ := ho8.sl (by decide)
            refine WL_end ⟨hS, ?_⟩
            refine WD_one 7 (by kernel_rfl) rfl ?_
            refine o_call rfl rfl rfl (impl_RegretOf_ok (hL.keep hS) hs8) ?_
            rintro _ w9 ⟨hk9, u9, f9, rfl, hs9, hf9⟩
            replace hS := hS.keep hk9
            refine WL_end ⟨hS, ?_⟩
            first|refine d_o 8 ?_|refine d_a 8 ?_|refine d_s 8 ?_|refine d_n 8 ?_|refine d_i 8 ?_|refine d_f 8 ?_|refine d_b 8 ?_|refine d_d 8 ?_|refine d_l1 8 ?_|refine d_l2 8 ?_|refine d_l3 8 ?_|refine d_l4 8 ?_|refine d_l5 8 ?_|refine d_l6 8 ?_|refine d_l7 8 ?_|refine d_l8 8 ?_|refine d_l9 8 ?_|refine d_g 8 ?_|refine d_q 8 ?_|refine d_e 8 ?_|refine d_j 8 ?_
            first|refine d_o 9 ?_|refine d_a 9 ?_|refine d_s 9 ?_|refine d_n 9 ?_|refine d_i 9 ?_|refine d_f 9 ?_|refine d_b 9 ?_|refine d_d 9 ?_|refine d_l1 9 ?_|refine d_l2 9 ?_|refine d_l3 9 ?_|refine d_l4 9 ?_|refine d_l5 9 ?_|refine d_l6 9 ?_|refine d_l7 9 ?_|refine d_l8 9 ?_|refine d_l9 9 ?_|refine d_g 9 ?_|refine d_q 9 ?_|refine d_e 9 ?_|refine d_j 9 ?_
            first|refine d_o 10 ?_|refine d_a 10 ?_|refine d_s 10 ?_|refine d_n 10 ?_|refine d_i 10 ?_|refine d_f 10 ?_|refine d_b 10 ?_|refine d_d 10 ?_|refine d_l1 10 ?_|refine d_l2 10 ?_|refine d_l3 10 ?_|refine d_l4 10 ?_|refine d_l5 10 ?_|refine d_l6 10 ?_|refine d_l7 10 ?_|refine d_l8 10 ?_|refine d_l9 10 ?_|refine d_g 10 ?_|refine d_q 10 ?_|refine d_e 10 ?_|refine d_j 10 ?_
            first|refine d_o 11 ?_|refine d_a 11 ?_|refine d_s 11 ?_|refine d_n 11 ?_|refine d_i 11 ?_|refine d_f 11 ?_|refine d_b 11 ?_|refine d_d 11 ?_|refine d_l1 11 ?_|refine d_l2 11 ?_|refine d_l3 11 ?_|refine d_l4 11 ?_|refine d_l5 11 ?_|refine d_l6 11 ?_|refine d_l7 11 ?_|refine d_l8 11 ?_|refine d_l9 11 ?_|refine d_g 11 ?_|refine d_q 11 ?_|refine d_e 11 ?_|refine d_j 11 ?_
            first|refine d_o 12 ?_|refine d_a 12 ?_|refine d_s 12 ?_|refine d_n 12 ?_|refine d_i 12 ?_|refine d_f 12 ?_|refine d_b 12 ?_|refine d_d 12 ?_|refine d_l1 12 ?_|refine d_l2 12 ?_|refine d_l3 12 ?_|refine d_l4 12 ?_|refine d_l5 12 ?_|refine d_l6 12 ?_|refine d_l7 12 ?_|refine d_l8 12 ?_|refine d_l9 12 ?_|refine d_g 12 ?_|refine d_q 12 ?_|refine d_e 12 ?_|refine d_j 12 ?_
            first|refine d_o 13 ?_|refine d_a 13 ?_|refine d_s 13 ?_|refine d_n 13 ?_|refine d_i 13 ?_|refine d_f 13 ?_|refine d_b 13 ?_|refine d_d 13 ?_|refine d_l1 13 ?_|refine d_l2 13 ?_|refine d_l3 13 ?_|refine d_l4 13 ?_|refine d_l5 13 ?_|refine d_l6 13 ?_|refine d_l7 13 ?_|refine d_l8 13 ?_|refine d_l9 13 ?_|refine d_g 13 ?_|refine d_q 13 ?_|refine d_e 13 ?_|refine d_j 13 ?_
            first|refine d_o 14 ?_|refine d_a 14 ?_|refine d_s 14 ?_|refine d_n 14 ?_|refine d_i 14 ?_|refine d_f 14 ?_|refine d_b 14 ?_|refine d_d 14 ?_|refine d_l1 14 ?_|refine d_l2 14 ?_|refine d_l3 14 ?_|refine d_l4 14 ?_|refine d_l5 14 ?_|refine d_l6 14 ?_|refine d_l7 14 ?_|refine d_l8 14 ?_|refine d_l9 14 ?_|refine d_g 14 ?_|refine d_q 14 ?_|refine d_e 14 ?_|refine d_j 14 ?_
            refine WD_done (by kernel_rfl) ?_
            replace hb10 := hb10.keep hS
            replace hk4 := hk4.keep hS
            repeat refine zz ?_
            refine WL_part rfl rfl (fun hz => ?_) (fun hz => ?_)
            · simp at hz
              repeat refine zz ?_
              have e : pickSt L (greedyN L no) (k + 1) = ((gi L (k : Int)).id, (regret L (greedyN L no ++ [(gi L (k : Int)).id])).1, (regret L (greedyN L no ++ [(gi L (k : Int)).id])).2.1) := by rw [pickSt_succ, if_neg (by simp [hh]), if_pos (.inl hz)]
              exact ⟨k + 1, ⟨rfl, rfl, rfl, find_int rfl (by rw [e]), find_int rfl (by rw [e]), find_int rfl (by rw [e]), rfl, rfl, rfl, trivial⟩, ⟨hk4, by omega⟩, by omega⟩
            · simp at hz
              repeat refine zz ?_
              have hm1 := mul_pos_bd (a := (regret L (greedyN L no ++ [(gi L (k : Int)).id])).1) (b := (pickSt L (greedyN L no) k).2.2) (by omega) (by omega)
              have hm2 := mul_pos_bd (a := (pickSt L (greedyN L no) k).2.1) (b := (regret L (greedyN L no ++ [(gi L (k : Int)).id])).2.1) (by omega) (by omega)
              refine WL_pure rfl rfl (o_mul rfl rfl (by omega)) ?_
              repeat refine zz ?_
              refine WL_pure rfl rfl (o_mul rfl rfl (by omega)) ?_
              repeat refine zz ?_
              refine W_cond rfl (fun hd => ?_) (fun hd => ?_)
              · simp at hd
                repeat refine zz ?_
                have e : pickSt L (greedyN L no) (k + 1) = ((gi L (k : Int)).id, (regret L (greedyN L no ++ [(gi L (k : Int)).id])).1, (regret L (greedyN L no ++ [(gi L (k : Int)).id])).2.1) := by rw [pickSt_succ, if_neg (by simp [hh]), if_pos (.inr hd)]
                exact ⟨k + 1, ⟨rfl, rfl, rfl, find_int rfl (by rw [e]), find_int rfl (by rw [e]), find_int rfl (by rw [e]), rfl, rfl, rfl, trivial⟩, ⟨hk4, by omega⟩, by omega⟩
              · simp at hd
                repeat refine zz ?_
                have e : pickSt L (greedyN L no) (k + 1) = pickSt L (greedyN L no) k := by rw [pickSt_succ, if_neg (by simp [hh]), if_neg (by omega)]
                exact ⟨k + 1, ⟨rfl, rfl, rfl, find_int rfl (by rw [e]), find_int rfl (by rw [e]), find_int rfl (by rw [e]), rfl, rfl, rfl, trivial⟩, ⟨hk4, by omega⟩, by omega⟩
          · refine o_buildSlice rfl rfl rfl rfl rfl (by simp [Value.cells]) (by omega) ?_
            intro b7 w7 hal7
            replace hS := hS.keep hal7.kp
            have hS7 := hS.size_le
            have hb7 := hal7.blk
            try replace ho5 := ho5.keep hal7.kp
            refine WL_end ⟨hS, ?_⟩
            refine WD_one 2 (by kernel_rfl) rfl ?_
            refine o_call rfl rfl rfl (copyInts_own (hso.keep hS) (by omega)) ?_
            rintro v5 w5 ⟨hk5, ho5⟩
            replace ho5 := ho5.base (base' := w4'.heap.size) (by have := hS.size_le; omega)
            replace hS := hS.keep hk5
            have hS5 := hS.size_le
            try replace hb7 := hb7.keep hk5
            refine WL_end ⟨hS, ?_⟩
            refine WD_one 6 (by kernel_rfl) rfl ?_
            refine o_appendF (R := intR) (M := _) (gi := []) rfl rfl rfl rfl rfl (by decide) ho5 (Blk.src (xs := [(gi L (k : Int)).id]) hb7 (Rows.ints _ _)) rfl (Fresh.nil _ _) (fun b hb => by simp at hb) (fun b hb => (ho5.lt hb).2) (fun b hb => by simp at hb) (by simp only [List.length_cons, List.length_nil]; omega) (by simp only [List.length_cons, List.length_nil]; omega) (by omega) ?_
            intro v8 w8 ho8 hb8 hg8
            replace hS := hS.grown hg8 (fun b hb => (ho5.lt hb).1)
            obtain ⟨f8, hs8, hf8⟩ := ho8.sl (by decide)
            refine WL_end ⟨hS, ?_⟩
            refine WD_one 7 (by kernel_rfl) rfl ?_
            refine o_call rfl rfl rfl (impl_RegretOf_ok (hL.keep hS) hs8) ?_
            rintro _ w9 ⟨hk9, u9, f9, rfl, hs9, hf9⟩
            replace hS := hS.keep hk9
            refine WL_end ⟨hS, ?_⟩
            first|refine d_o 8 ?_|refine d_a 8 ?_|refine d_s 8 ?_|refine d_n 8 ?_|refine d_i 8 ?_|refine d_f 8 ?_|refine d_b 8 ?_|refine d_d 8 ?_|refine d_l1 8 ?_|refine d_l2 8 ?_|refine d_l3 8 ?_|refine d_l4 8 ?_|refine d_l5 8 ?_|refine d_l6 8 ?_|refine d_l7 8 ?_|refine d_l8 8 ?_|refine d_l9 8 ?_|refine d_g 8 ?_|refine d_q 8 ?_|refine d_e 8 ?_|refine d_j 8 ?_
            first|refine d_o 9 ?_|refine d_a 9 ?_|refine d_s 9 ?_|refine d_n 9 ?_|refine d_i 9 ?_|refine d_f 9 ?_|refine d_b 9 ?_|refine d_d 9 ?_|refine d_l1 9 ?_|refine d_l2 9 ?_|refine d_l3 9 ?_|refine d_l4 9 ?_|refine d_l5 9 ?_|refine d_l6 9 ?_|refine d_l7 9 ?_|refine d_l8 9 ?_|refine d_l9 9 ?_|refine d_g 9 ?_|refine d_q 9 ?_|refine d_e 9 ?_|refine d_j 9 ?_
            first|refine d_o 10 ?_|refine d_a 10 ?_|refine d_s 10 ?_|refine d_n 10 ?_|refine d_i 10 ?_|refine d_f 10 ?_|refine d_b 10 ?_|refine d_d 10 ?_|refine d_l1 10 ?_|refine d_l2 10 ?_|refine d_l3 10 ?_|refine d_l4 10 ?_|refine d_l5 10 ?_|refine d_l6 10 ?_|refine d_l7 10 ?_|refine d_l8 10 ?_|refine d_l9 10 ?_|refine d_g 10 ?_|refine d_q 10 ?_|refine d_e 10 ?_|refine d_j 10 ?_
            first|refine d_o 11 ?_|refine d_a 11 ?_|refine d_s 11 ?_|refine d_n 11 ?_|refine d_i 11 ?_|refine d_f 11 ?_|refine d_b 11 ?_|refine d_d 11 ?_|refine d_l1 11 ?_|refine d_l2 11 ?_|refine d_l3 11 ?_|refine d_l4 11 ?_|refine d_l5 11 ?_|refine d_l6 11 ?_|refine d_l7 11 ?_|refine d_l8 11 ?_|refine d_l9 11 ?_|refine d_g 11 ?_|refine d_q 11 ?_|refine d_e 11 ?_|refine d_j 11 ?_
            first|refine d_o 12 ?_|refine d_a 12 ?_|refine d_s 12 ?_|refine d_n 12 ?_|refine d_i 12 ?_|refine d_f 12 ?_|refine d_b 12 ?_|refine d_d 12 ?_|refine d_l1 12 ?_|refine d_l2 12 ?_|refine d_l3 12 ?_|refine d_l4 12 ?_|refine d_l5 12 ?_|refine d_l6 12 ?_|refine d_l7 12 ?_|refine d_l8 12 ?_|refine d_l9 12 ?_|refine d_g 12 ?_|refine d_q 12 ?_|refine d_e 12 ?_|refine d_j 12 ?_
            first|refine d_o 13 ?_|refine d_a 13 ?_|refine d_s 13 ?_|refine d_n 13 ?_|refine d_i 13 ?_|refine d_f 13 ?_|refine d_b 13 ?_|refine d_d 13 ?_|refine d_l1 13 ?_|refine d_l2 13 ?_|refine d_l3 13 ?_|refine d_l4 13 ?_|refine d_l5 13 ?_|refine d_l6 13 ?_|refine d_l7 13 ?_|refine d_l8 13 ?_|refine d_l9 13 ?_|refine d_g 13 ?_|refine d_q 13 ?_|refine d_e 13 ?_|refine d_j 13 ?_
            first|refine d_o 14 ?_|refine d_a 14 ?_|refine d_s 14 ?_|refine d_n 14 ?_|refine d_i 14 ?_|refine d_f 14 ?_|refine d_b 14 ?_|refine d_d 14 ?_|refine d_l1 14 ?_|refine d_l2 14 ?_|refine d_l3 14 ?_|refine d_l4 14 ?_|refine d_l5 14 ?_|refine d_l6 14 ?_|refine d_l7 14 ?_|refine d_l8 14 ?_|refine d_l9 14 ?_|refine d_g 14 ?_|refine d_q 14 ?_|refine d_e 14 ?_|refine d_j 14 ?_
            refine WD_done (by kernel_rfl) ?_
            replace hb10 := hb10.keep hS
            replace hk4 := hk4.keep hS
            repeat refine zz ?_
            refine WL_part rfl rfl (fun hz => ?_) (fun hz => ?_)
            · simp at hz
              repeat refine zz ?_
              have e : pickSt L (greedyN L no) (k + 1) = ((gi L (k : Int)).id, (regret L (greedyN L no ++ [(gi L (k : Int)).id])).1, (regret L (greedyN L no ++ [(gi L (k : Int)).id])).2.1) := by rw [pickSt_succ, if_neg (by simp [hh]), if_pos (.inl hz)]
              exact ⟨k + 1, ⟨rfl, rfl, rfl, find_int rfl (by rw [e]), find_int rfl (by rw [e]), find_int rfl (by rw [e]), rfl, rfl, rfl, trivial⟩, ⟨hk4, by omega⟩, by omega⟩
            · simp at hz
              repeat refine zz ?_
              have hm1 := mul_pos_bd (a := (regret L (greedyN L no ++ [(gi L (k : Int)).id])).1) (b := (pickSt L (greedyN L no) k).2.2) (by omega) (by omega)
              have hm2 := mul_pos_bd (a := (pickSt L (greedyN L no) k).2.1) (b := (regret L (greedyN L no ++ [(gi L (k : Int)).id])).2.1) (by omega) (by omega)
              refine WL_pure rfl rfl (o_mul rfl rfl (by omega)) ?_
              repeat refine zz ?_
              refine WL_pure rfl rfl (o_mul rfl rfl (by omega)) ?_
              repeat refine zz ?_
              refine W_cond rfl (fun hd => ?_) (fun hd => ?_)
              · simp at hd
                repeat refine zz ?_
                have e : pickSt L (greedyN L no) (k + 1) = ((gi L (k : Int)).id, (regret L (greedyN L no ++ [(gi L (k : Int)).id])).1, (regret L (greedyN L no ++ [(gi L (k : Int)).id])).2.1) := by rw [pickSt_succ, if_neg (by simp [hh]), if_pos (.inr hd)]
                exact ⟨k + 1, ⟨rfl, rfl, rfl, find_int rfl (by rw [e]), find_int rfl (by rw [e]), find_int rfl (by rw [e]), rfl, rfl, rfl, trivial⟩, ⟨hk4, by omega⟩, by omega⟩
              · simp at hd
                repeat refine zz ?_
                have e : pickSt L (greedyN L no) (k + 1) = pickSt L (greedyN L no) k := by rw [pickSt_succ, if_neg (by simp [hh]), if_neg (by omega)]
                exact ⟨k + 1, ⟨rfl, rfl, rfl, find_int rfl (by rw [e]), find_int rfl (by rw [e]), find_int rfl (by rw [e]), rfl, rfl, rfl, trivial⟩, ⟨hk4, by omega⟩, by omega⟩
      · simp at hc
        obtain rfl : k = n := by omega
        repeat refine zz ?_
        refine o_buildSlice rfl rfl rfl rfl rfl (by simp [Value.cells]) (by omega) ?_
        intro b5 w5 hal5
        have hkb := hk2.keep hal5.kp
        have hob := ho2.keep hal5.kp
        have hkz := hk2.size_le
        have hkz4 := hk4.size_le
        have hz5 := hal5.size
        have hgl := greedyN_len L no
        repeat refine zz ?_
        refine o_appendF (R := intR) (M := w4.heap.size) (gi := []) rfl rfl rfl rfl rfl (by decide) hob (Blk.src (xs := [(pickSt L (greedyN L no) k).1]) hal5.blk (Rows.ints _ _)) rfl (Fresh.nil _ _) (fun b hb => by simp at hb) (fun b hb => (ho2.lt hb).2) (fun b hb => by simp at hb) (by simp only [List.length_cons, List.length_nil]; omega) (by simp only [List.length_cons, List.length_nil]; omega) (by omega) ?_
        intro v6 w6 ho6 hb6 hg6
        have hk6 : Keep w w6 := hkb.grown hg6 (fun b hb => (hob.lt hb).1)
        repeat refine zz ?_
        have e : greedyN L (no + 1) = greedyN L no ++ [(pickSt L (greedyN L no) k).1] := by rw [hnx]; exact greedyN_succ _ _
        exact ⟨(no + 1, v6), ⟨rfl, rfl, rfl, trivial⟩, ⟨hk6, by dsimp only; omega, fun _ => ⟨by dsimp only; omega, h3⟩, by dsimp only; rw [e]; exact ho6⟩, by dsimp only; omega⟩
    · simp at h2
      repeat refine zz ?_
      obtain ⟨fp, hs, hf⟩ := ho2.sl (by decide)
      exact ret1 rfl rfl ⟨hk2, fp, by rw [← hgo (.inr (.inl (by omega)))]; exact hs, hf⟩
  · simp at h1
    repeat refine zz ?_
    obtain ⟨fp, hs, hf⟩ := ho2.sl (by decide)
    exact ret1 rfl rfl ⟨hk2, fp, by rw [← hgo (.inl (by omega))]; exact hs, hf⟩
end Go.E

/-
  Dividing items into halves, by the program. Conditions: as stated.
-/
import Derived.Test.YtdenoambgonomaaGreatM5
import Derived.Test.YtdenoambgonomaaGreatM6
set_option linter.unusedVariables false
set_option linter.unusedSimpArgs false
namespace Go.E
open Go Go.RowKit Go.Proofs
theorem ids_one {M : List Itm} (h : M.length = 1) : idsOf M = [(gi M (0 : Int)).id] := by
  match M, h with
  | [x], _ => rfl
theorem OwnF.oneI {w : World} {b base : Nat} {el : TypeId} {x : Int} (h : Blk w b el [.int .i64 x]) (hb : base ≤ b) : OwnF intR w base el (.slice (some ⟨b, 0, none⟩) 1 1) [x] [] :=
  ⟨Own.full (xs := [x]) h (Rows.ints _ _) (by simp [maxLen]) hb, Fresh.nil _ _, fun b hb => by simp⟩
attribute [local irreducible] W WL WD WE thenE inE retQ PureOp Keep Cell Cells Blk Sl Rows Own Src Fresh
attribute [local irreducible] divP mrg idsOf

set_option maxHeartbeats 4000000 in
theorem divide1_ok {L : List Itm} {e : List Nod} (hex : isExpr e = true) (hit : ∀ i : Nat, i < L.length → isItem (gi L (i : Int)) = true) (hln : L.length ≤ 16) {b6 b2 b3 : Nat} {vl ve : Value} : ∀ (N : Nat) {w : World} {v : Value} {M : List Itm} {fm fp gp : List Nat} (hM : Sl itemR w v M fm) (hL : Sl itemR w vl L fp) (he : Sl nodeR w ve e gp)
    (h6 : Blk w b6 106 [.func (.func 88) ([] : List Value).toArray ([.pointer (some ⟨b6, 0, none⟩), .pointer (some ⟨b2, 0, none⟩), .pointer (some ⟨b3, 0, none⟩)] : List Value).toArray]) (h2 : Blk w b2 24 [vl]) (h3 : Blk w b3 30 [ve]),
    0 < M.length → M.length ≤ 16 → M.length ≤ N → (∀ x, x ∈ M → x ∈ L) →
    Run Tryz.prog 88 [v, .pointer (some ⟨b6, 0, none⟩), .pointer (some ⟨b2, 0, none⟩), .pointer (some ⟨b3, 0, none⟩)] w (fun r w' => Keep w w' ∧ ∃ x f, r = .tuple #[x, .int .i64 (divP L e N M).2] ∧ Sl intR w' x (divP L e N M).1 f ∧ Fresh w.heap.size w' f) := by
  intro N
  induction N with
  | zero => intro w v M fm fp gp hM hL he h6 h2 h3 h0 h16 hn; omega
  | succ N ih =>
    intro w v M fm fp gp hM hL he h6 h2 h3 h0 h16 hn hsub
    obtain ⟨A, n, c, rfl, hnx⟩ := hM.split
    have hcap := hM.caps
    refine Run_intro Tryz.func88 (by unfold CallOk; kernel_rfl) rfl Tryz.ntmps88 (Nat.le_of_ble_eq_true rfl) ?_
    simp only [penv, Nat.reduceAdd, Nat.zero_add]
    repeat refine zz ?_
    refine W_cond rfl (fun hq => ?_) (fun hq => ?_)
    · simp at hq
      have hn1 : n = 1 := by omega
      obtain ⟨hA, u1, f1, hcell1, _, _⟩ := item_get hM (i := 0) (by omega) (by omega)
      repeat refine zz ?_
      refine o_buildSlice rfl rfl rfl rfl rfl (by simp [Value.cells]) (by omega) ?_
      intro b5 w5 hal5
      have hb5 : Blk w5 b5 3 [.int .i64 (gi M (0 : Int)).id] := by simpa [Value.cells] using hal5.blk
      have ho : OwnF intR w5 w.heap.size 3 (.slice (some ⟨b5, 0, none⟩) [(gi M (0 : Int)).id].length [(gi M (0 : Int)).id].length) [(gi M (0 : Int)).id] [] := OwnF.oneI hb5 (by have := hal5.b_eq; omega)
      obtain ⟨fs, hs, hf⟩ := ho.sl (by decide)
      repeat refine zz ?_
      have hone := divP_one (L := L) (e := e) (n := N + 1) (M := M) (by omega)
      rw [ids_one (by omega)] at hone
      exact ret2 rfl rfl rfl ⟨hal5.kp, _, fs, by rw [hone], by rw [hone]; exact hs, hf⟩
    simp at hq
    have hmore := divP_more (L := L) (e := e) (n := N) (M := M) (by omega)
    have hq2 := half_eq n (by omega)
    generalize hh : n / 2 = h at hq2
    rw [← hnx, hh] at hmore
    obtain ⟨fa, hMa, hfa⟩ := hM.hi (k := h) (by omega)
    obtain ⟨fb, hMb, hfb⟩ := hM.lo (k := h) (by omega)
    have la : (M.take h).length = h := by rw [List.length_take]; omega
    have lb : (M.drop h).length = n - h := by rw [List.length_drop]; omega
    have c6 := h6.cell (i := 0) rfl
    have c2 := h2.cell (i := 0) rfl
    have c3 := h3.cell (i := 0) rfl
    repeat refine zz ?_
    refine WL_pure rfl rfl (o_quo rfl rfl (by decide)) ?_
    rw [hq2]
    repeat refine zz ?_
    refine W_draw (Keep w) (by kernel_rfl) ?_
    have hS : Keep w (World.drew w) := Keep.drew w
    first|refine d_o 0 ?_|refine d_a 0 ?_|refine d_s 0 ?_|refine d_n 0 ?_|refine d_i 0 ?_|refine d_f 0 ?_|refine d_b 0 ?_|refine d_d 0 ?_|refine d_l1 0 ?_|refine d_l2 0 ?_|refine d_l3 0 ?_|refine d_l4 0 ?_|refine d_l5 0 ?_|refine d_l6 0 ?_|refine d_l7 0 ?_|refine d_l8 0 ?_|refine d_l9 0 ?_|refine d_g 0 ?_|refine d_q 0 ?_|refine d_e 0 ?_|refine d_j 0 ?_
    first|refine d_o 1 ?_|refine d_a 1 ?_|refine d_s 1 ?_|refine d_n 1 ?_|refine d_i 1 ?_|refine d_f 1 ?_|refine d_b 1 ?_|refine d_d 1 ?_|refine d_l1 1 ?_|refine d_l2 1 ?_|refine d_l3 1 ?_|refine d_l4 1 ?_|refine d_l5 1 ?_|refine d_l6 1 ?_|refine d_l7 1 ?_|refine d_l8 1 ?_|refine d_l9 1 ?_|refine d_g 1 ?_|refine d_q 1 ?_|refine d_e 1 ?_|refine d_j 1 ?_
    first|refine d_o 2 ?_|refine d_a 2 ?_|refine d_s 2 ?_|refine d_n 2 ?_|refine d_i 2 ?_|refine d_f 2 ?_|refine d_b 2 ?_|refine d_d 2 ?_|refine d_l1 2 ?_|refine d_l2 2 ?_|refine d_l3 2 ?_|refine d_l4 2 ?_|refine d_l5 2 ?_|refine d_l6 2 ?_|refine d_l7 2 ?_|refine d_l8 2 ?_|refine d_l9 2 ?_|refine d_g 2 ?_|refine d_q 2 ?_|refine d_e 2 ?_|refine d_j 2 ?_
    refine WD_take 3 rfl (by kernel_rfl) (by kernel_rfl) (by kernel_rfl) (by repeat (first | exact np_ret | refine np_then ?_ | refine np_in ?_)) rfl rfl (fun w' _ => o_slice_hi (h := h) rfl rfl (by omega)) hS ?_
    refine WD_one 4 (by kernel_rfl) rfl ?_
    refine o_callv rfl rfl rfl rfl (ih (hMa.keep hS) (hL.keep hS) (he.keep hS) (h6.keep hS) (h2.keep hS) (h3.keep hS) (by omega) (by omega) (by omega) (fun x hx => hsub x (List.mem_of_mem_take hx))) ?_
    rintro _ w1 ⟨hk1, x1, f1, rfl, hs1, hf1⟩
    have hz1 := hS.size_le
    replace hS := hS.keep hk1
    refine WL_end ⟨hS, ?_⟩
    first|refine d_o 5 ?_|refine d_a 5 ?_|refine d_s 5 ?_|refine d_n 5 ?_|refine d_i 5 ?_|refine d_f 5 ?_|refine d_b 5 ?_|refine d_d 5 ?_|refine d_l1 5 ?_|refine d_l2 5 ?_|refine d_l3 5 ?_|refine d_l4 5 ?_|refine d_l5 5 ?_|refine d_l6 5 ?_|refine d_l7 5 ?_|refine d_l8 5 ?_|refine d_l9 5 ?_|refine d_g 5 ?_|refine d_q 5 ?_|refine d_e 5 ?_|refine d_j 5 ?_
    first|refine d_o 6 ?_|refine d_a 6 ?_|refine d_s 6 ?_|refine d_n 6 ?_|refine d_i 6 ?_|refine d_f 6 ?_|refine d_b 6 ?_|refine d_d 6 ?_|refine d_l1 6 ?_|refine d_l2 6 ?_|refine d_l3 6 ?_|refine d_l4 6 ?_|refine d_l5 6 ?_|refine d_l6 6 ?_|refine d_l7 6 ?_|refine d_l8 6 ?_|refine d_l9 6 ?_|refine d_g 6 ?_|refine d_q 6 ?_|refine d_e 6 ?_|refine d_j 6 ?_
    first|refine d_o 7 ?_|refine d_a 7 ?_|refine d_s 7 ?_|refine d_n 7 ?_|refine d_i 7 ?_|refine d_f 7 ?_|refine d_b 7 ?_|refine d_d 7 ?_|refine d_l1 7 ?_|refine d_l2 7 ?_|refine d_l3 7 ?_|refine d_l4 7 ?_|refine d_l5 7 ?_|refine d_l6 7 ?_|refine d_l7 7 ?_|refine d_l8 7 ?_|refine d_l9 7 ?_|refine d_g 7 ?_|refine d_q 7 ?_|refine d_e 7 ?_|refine d_j 7 ?_
    first|refine d_o 8 ?_|refine d_a 8 ?_|refine d_s 8 ?_|refine d_n 8 ?_|refine d_i 8 ?_|refine d_f 8 ?_|refine d_b 8 ?_|refine d_d 8 ?_|refine d_l1 8 ?_|refine d_l2 8 ?_|refine d_l3 8 ?_|refine d_l4 8 ?_|refine d_l5 8 ?_|refine d_l6 8 ?_|refine d_l7 8 ?_|refine d_l8 8 ?_|refine d_l9 8 ?_|refine d_g 8 ?_|refine d_q 8 ?_|refine d_e 8 ?_|refine d_j 8 ?_
    first|refine d_o 9 ?_|refine d_a 9 ?_|refine d_s 9 ?_|refine d_n 9 ?_|refine d_i 9 ?_|refine d_f 9 ?_|refine d_b 9 ?_|refine d_d 9 ?_|refine d_l1 9 ?_|refine d_l2 9 ?_|refine d_l3 9 ?_|refine d_l4 9 ?_|refine d_l5 9 ?_|refine d_l6 9 ?_|refine d_l7 9 ?_|refine d_l8 9 ?_|refine d_l9 9 ?_|refine d_g 9 ?_|refine d_q 9 ?_|refine d_e 9 ?_|refine d_j 9 ?_
    refine WD_done (by kernel_rfl) ?_
    replace hL := hL.keep hS
    replace he := he.keep hS
    replace h6 := h6.keep hS
    replace h2 := h2.keep hS
    replace h3 := h3.keep hS
    replace hMb := hMb.keep hS
    clear c6 c2 c3 hMa
    have c6 := h6.cell (i := 0) rfl
    have c2 := h2.cell (i := 0) rfl
    have c3 := h3.cell (i := 0) rfl
    repeat refine zz ?_
    refine W_draw (Keep w1) (by kernel_rfl) ?_
    have hT : Keep w1 (World.drew w1) := Keep.drew w1
    first|refine d_o 0 ?_|refine d_a 0 ?_|refine d_s 0 ?_|refine d_n 0 ?_|refine d_i 0 ?_|refine d_f 0 ?_|refine d_b 0 ?_|refine d_d 0 ?_|refine d_l1 0 ?_|refine d_l2 0 ?_|refine d_l3 0 ?_|refine d_l4 0 ?_|refine d_l5 0 ?_|refine d_l6 0 ?_|refine d_l7 0 ?_|refine d_l8 0 ?_|refine d_l9 0 ?_|refine d_g 0 ?_|refine d_q 0 ?_|refine d_e 0 ?_|refine d_j 0 ?_
    first|refine d_o 1 ?_|refine d_a 1 ?_|refine d_s 1 ?_|refine d_n 1 ?_|refine d_i 1 ?_|refine d_f 1 ?_|refine d_b 1 ?_|refine d_d 1 ?_|refine d_l1 1 ?_|refine d_l2 1 ?_|refine d_l3 1 ?_|refine d_l4 1 ?_|refine d_l5 1 ?_|refine d_l6 1 ?_|refine d_l7 1 ?_|refine d_l8 1 ?_|refine d_l9 1 ?_|refine d_g 1 ?_|refine d_q 1 ?_|refine d_e 1 ?_|refine d_j 1 ?_
    first|refine d_o 2 ?_|refine d_a 2 ?_|refine d_s 2 ?_|refine d_n 2 ?_|refine d_i 2 ?_|refine d_f 2 ?_|refine d_b 2 ?_|refine d_d 2 ?_|refine d_l1 2 ?_|refine d_l2 2 ?_|refine d_l3 2 ?_|refine d_l4 2 ?_|refine d_l5 2 ?_|refine d_l6 2 ?_|refine d_l7 2 ?_|refine d_l8 2 ?_|refine d_l9 2 ?_|refine d_g 2 ?_|refine d_q 2 ?_|refine d_e 2 ?_|refine d_j 2 ?_
    refine WD_take 3 rfl (by kernel_rfl) (by kernel_rfl) (by kernel_rfl) (by repeat (first | exact np_ret | refine np_then ?_ | refine np_in ?_)) rfl rfl (fun w' _ => o_slice_lo (l := h) rfl rfl (by omega)) hT ?_
    refine WD_one 4 (by kernel_rfl) rfl ?_
    refine o_callv rfl rfl rfl rfl (ih (hMb.keep hT) (hL.keep hT) (he.keep hT) (h6.keep hT) (h2.keep hT) (h3.keep hT) (by omega) (by omega) (by omega) (fun x hx => hsub x (List.mem_of_mem_drop hx))) ?_
    rintro _ w2 ⟨hk2, x2, f2, rfl, hs2, hf2⟩
    replace hT := hT.keep hk2
    refine WL_end ⟨hT, ?_⟩
    first|refine d_o 5 ?_|refine d_a 5 ?_|refine d_s 5 ?_|refine d_n 5 ?_|refine d_i 5 ?_|refine d_f 5 ?_|refine d_b 5 ?_|refine d_d 5 ?_|refine d_l1 5 ?_|refine d_l2 5 ?_|refine d_l3 5 ?_|refine d_l4 5 ?_|refine d_l5 5 ?_|refine d_l6 5 ?_|refine d_l7 5 ?_|refine d_l8 5 ?_|refine d_l9 5 ?_|refine d_g 5 ?_|refine d_q 5 ?_|refine d_e 5 ?_|refine d_j 5 ?_
    first|refine d_o 6 ?_|refine d_a 6 ?_|refine d_s 6 ?_|refine d_n 6 ?_|refine d_i 6 ?_|refine d_f 6 ?_|refine d_b 6 ?_|refine d_d 6 ?_|refine d_l1 6 ?_|refine d_l2 6 ?_|refine d_l3 6 ?_|refine d_l4 6 ?_|refine d_l5 6 ?_|refine d_l6 6 ?_|refine d_l7 6 ?_|refine d_l8 6 ?_|refine d_l9 6 ?_|refine d_g 6 ?_|refine d_q 6 ?_|refine d_e 6 ?_|refine d_j 6 ?_
    first|refine d_o 7 ?_|refine d_a 7 ?_|refine d_s 7 ?_|refine d_n 7 ?_|refine d_i 7 ?_|refine d_f 7 ?_|refine d_b 7 ?_|refine d_d 7 ?_|refine d_l1 7 ?_|refine d_l2 7 ?_|refine d_l3 7 ?_|refine d_l4 7 ?_|refine d_l5 7 ?_|refine d_l6 7 ?_|refine d_l7 7 ?_|refine d_l8 7 ?_|refine d_l9 7 ?_|refine d_g 7 ?_|refine d_q 7 ?_|refine d_e 7 ?_|refine d_j 7 ?_
    first|refine d_o 8 ?_|refine d_a 8 ?_|refine d_s 8 ?_|refine d_n 8 ?_|refine d_i 8 ?_|refine d_f 8 ?_|refine d_b 8 ?_|refine d_d 8 ?_|refine d_l1 8 ?_|refine d_l2 8 ?_|refine d_l3 8 ?_|refine d_l4 8 ?_|refine d_l5 8 ?_|refine d_l6 8 ?_|refine d_l7 8 ?_|refine d_l8 8 ?_|refine d_l9 8 ?_|refine d_g 8 ?_|refine d_q 8 ?_|refine d_e 8 ?_|refine d_j 8 ?_
    first|refine d_o 9 ?_|refine d_a 9 ?_|refine d_s 9 ?_|refine d_n 9 ?_|refine d_i 9 ?_|refine d_f 9 ?_|refine d_b 9 ?_|refine d_d 9 ?_|refine d_l1 9 ?_|refine d_l2 9 ?_|refine d_l3 9 ?_|refine d_l4 9 ?_|refine d_l5 9 ?_|refine d_l6 9 ?_|refine d_l7 9 ?_|refine d_l8 9 ?_|refine d_l9 9 ?_|refine d_g 9 ?_|refine d_q 9 ?_|refine d_e 9 ?_|refine d_j 9 ?_
    refine WD_done (by kernel_rfl) ?_
    replace hL := hL.keep hT
    replace he := he.keep hT
    replace h6 := h6.keep hT
    replace h2 := h2.keep hT
    replace h3 := h3.keep hT
    replace hs1 := hs1.keep hT
    replace hS := hS.keep hT
    clear c6 c2 c3 hMb
    have c6 := h6.cell (i := 0) rfl
    have c2 := h2.cell (i := 0) rfl
    have c3 := h3.cell (i := 0) rfl
    have l1 := divP_len (L := L) (e := e) N (M.take h)
    have l2 := divP_len (L := L) (e := e) N (M.drop h)
    have kn1 := divP_known (L := L) (e := e) (n := N) (M := M.take h) (fun x hx => hsub x (List.mem_of_mem_take hx))
    have kn2 := divP_known (L := L) (e := e) (n := N) (M := M.drop h) (fun x hx => hsub x (List.mem_of_mem_drop hx))
    have t1 := divP_small (L := L) (e := e) (n := N) (M := M.take h) (by omega)
    have t2 := divP_small (L := L) (e := e) (n := N) (M := M.drop h) (by omega)
    generalize divP L e N (M.take h) = d1 at *
    generalize divP L e N (M.drop h) = d2 at *
    obtain ⟨A1, n1, c1, rfl, hn1⟩ := hs1.split
    obtain ⟨A2, n2, c2, rfl, hn2⟩ := hs2.split
    have hmu := mul_le2 (a := (n1 : Int)) (b := 16) (c := (n2 : Int)) (d := 16) (by omega) (by omega) (by omega) (by omega)
    repeat refine zz ?_
    refine o_call rfl rfl rfl (merged_ok hL he hs1 hs2 hex hit (by omega) (by omega) kn1 kn2) ?_
    rintro x3 w3 ⟨hk3, f3, hs3, hf3⟩
    repeat refine zz ?_
    refine WL_pure rfl rfl (o_mul rfl rfl (by omega)) ?_
    repeat refine zz ?_
    have hz2 := hS.size_le
    refine ret2 rfl rfl rfl ⟨hS.keep hk3, x3, f3, by rw [hmore, hn1, hn2], by rw [hmore]; exact hs3, hf3.mono hz2⟩

set_option maxHeartbeats 2000000 in
theorem impl_DivideBest_ok {w : World} {v u : Value} {L : List Itm} {e : List Nod} {fp gp : List Nat} (hL : Sl itemR w v L fp) (he : Sl nodeR w u e gp) (hn : e.length + totN e ≤ 1048576) :
    Run Tryz.prog 39 [v, u] w (fun r w' => Keep w w' ∧ ∃ x f, r = .tuple #[x, .int .i64 (divide L e).2] ∧ Sl intR w' x (divide L e).1 f ∧ Fresh w.heap.size w' f) := by
  obtain ⟨A, n, c, rfl, hnx⟩ := hL.split
  obtain ⟨Au, nu, cu, rfl, hnu⟩ := he.split
  refine Run_intro Tryz.func39 (by unfold CallOk; kernel_rfl) rfl Tryz.ntmps39 (Nat.le_of_ble_eq_true rfl) ?_
  simp only [penv, Nat.reduceAdd, Nat.zero_add]
  repeat refine zz ?_
  refine o_box rfl rfl rfl ?_
  intro b2 w1 hal1
  have h2 : Blk w1 b2 24 [.slice A n c] := hal1.blk
  have hk := hal1.kp
  replace hL := hL.keep hal1.kp
  replace he := he.keep hal1.kp
  repeat refine zz ?_
  refine o_box rfl rfl rfl ?_
  intro b3 w2 hal2
  have h3 : Blk w2 b3 30 [.slice Au nu cu] := hal2.blk
  replace hL := hL.keep hal2.kp
  replace he := he.keep hal2.kp
  replace h2 := h2.keep hal2.kp
  replace hk := hk.keep hal2.kp
  have c2 := h2.cell (i := 0) rfl
  have c3 := h3.cell (i := 0) rfl
  repeat refine zz ?_
  refine o_call rfl rfl rfl (areBoth_ok hL he hn) ?_
  rintro _ w3 ⟨rfl, hk3⟩
  replace hL := hL.keep hk3
  replace he := he.keep hk3
  replace h2 := h2.keep hk3
  replace h3 := h3.keep hk3
  replace hk := hk.keep hk3
  replace c2 := c2.keep hk3
  replace c3 := c3.keep hk3
  repeat refine zz ?_
  refine WL_part rfl rfl (fun h1 => ?_) (fun h1 => ?_)
  · repeat refine zz ?_
    refine o_buildSlice rfl rfl rfl rfl rfl (by intro p hp; cases hp) (by omega) ?_
    intro bO wO halO
    have hkO := halO.kp
    have ho0 : OwnF intR wO w.heap.size 3 (.slice (some ⟨bO, 0, none⟩) 0 0) [] [] := OwnF.made halO.blk (by have := halO.b_eq; have := hk.size_le; omega)
    obtain ⟨fp, hs, hf⟩ := ho0.sl (by decide)
    repeat refine zz ?_
    simp at h1
    have hd : divide L e = ([], 0) := by rw [divide, if_neg (by simp [h1])]
    exact ret2 rfl rfl rfl ⟨hk.keep hkO, _, fp, by rw [hd], by rw [hd]; exact hs, hf⟩
  simp at h1
  obtain ⟨hit, hln, hex⟩ := fine_ok h1
  have hd : divide L e = divP L e L.length L := by rw [divide, if_pos h1]
  repeat refine zz ?_
  refine W_cond rfl (fun h0 => ?_) (fun h0 => ?_)
  · simp at h0
    repeat refine zz ?_
    refine o_buildSlice rfl rfl rfl rfl rfl (by intro p hp; cases hp) (by omega) ?_
    intro bO wO halO
    have hkO := halO.kp
    have ho0 : OwnF intR wO w.heap.size 3 (.slice (some ⟨bO, 0, none⟩) 0 0) [] [] := OwnF.made halO.blk (by have := halO.b_eq; have := hk.size_le; omega)
    obtain ⟨fp, hs, hf⟩ := ho0.sl (by decide)
    repeat refine zz ?_
    have hd0 : divide L e = ([], 0) := by
      have : L = [] := List.eq_nil_of_length_eq_zero (by omega)
      rw [hd, divP_one (by omega), this]; simp [idsOf]
    exact ret2 rfl rfl rfl ⟨hk.keep hkO, _, fp, by rw [hd0], by rw [hd0]; exact hs, hf⟩
  simp at h0
  repeat refine zz ?_
  refine o_alloc rfl rfl ?_
  intro b6 w4 hal4
  have hb6 := hal4.blk
  have he6 := hal4.b_eq
  have hz3 := hk.size_le
  have hk4 := hk.keep hal4.kp
  repeat refine zz ?_
  refine WL_pure rfl rfl (o_makeFunc rfl rfl) ?_
  repeat refine zz ?_
  refine o_store1 (b := b6) (off := 0) rfl rfl rfl rfl rfl hb6 (by simp) ?_
  intro w5 hu5
  have hlt2 := h2.lt
  have hlt3 := h3.lt
  have h6 : Blk w5 b6 106 [.func (.func 88) ([] : List Value).toArray ([.pointer (some ⟨b6, 0, none⟩), .pointer (some ⟨b2, 0, none⟩), .pointer (some ⟨b3, 0, none⟩)] : List Value).toArray] := hu5.blk
  have hK : Keep w3 w5 := hal4.kp.upd hu5 (by omega)
  replace hL := hL.keep hK
  replace he := he.keep hK
  replace h2 := h2.keep hK
  replace h3 := h3.keep hK
  replace hk := hk.keep hK
  clear c2 c3 hb6
  have c2 := h2.cell (i := 0) rfl
  have c6 := h6.cell (i := 0) rfl
  repeat refine zz ?_
  refine o_callv rfl rfl rfl rfl (divide1_ok hex hit hln n hL hL he h6 h2 h3 (by omega) (by omega) (by omega) (fun x hx => hx)) ?_
  rintro _ w6 ⟨hk6, x, f, rfl, hs, hf⟩
  have hz5 := hk.size_le
  repeat refine zz ?_
  exact ret2 rfl rfl rfl ⟨hk.keep hk6, x, f, by rw [hd, ← hnx], by rw [hd, ← hnx]; exact hs, hf.mono hz5⟩
end Go.E

/-
  'FnRegrets' holds for every input: it returns true, and the input reads as it did. Conditions: none.
-/
import Derived.Test.YtoemiahnilmdlaaDr
import Derived.Test.YtoemiahnilmdlaaLs
import Derived.Test.YtoemiahnilmdlaaCu
import Derived.Test.YtoemiahnilmdlaaSt2
set_option linter.unusedVariables false
set_option linter.unusedSimpArgs false
namespace Go.E
open Go Go.RowKit Go.Proofs
theorem sub_known {L : List Itm} {a : List Int} (h : subB a (idsOf L) = true) : areKnown L a = true := by
  rw [known_iff]
  intro x hx
  obtain ⟨i, hi, rfl⟩ := List.getElem_of_mem hx
  have := List.all_eq_true.1 h i (by simpa using hi)
  rw [gi_lt hi] at this
  rw [hasI_iff] at this
  exact findI_mem.2 this
theorem spare_bd (L : List Itm) (ids : List Int) {p q : Int} (hp : 0 ≤ p ∧ p ≤ q) (hq : 1 ≤ q ∧ q ≤ 100) : (-9223372036854775808 ≤ (regret L ids).1 * q ∧ (regret L ids).1 * q ≤ 9223372036854775807) ∧ (-9223372036854775808 ≤ p * (regret L ids).2.1 ∧ p * (regret L ids).2.1 ≤ 9223372036854775807) := okSet_bd L ids (by omega) hq
attribute [local irreducible] W WL WD WE thenE inE retQ PureOp Keep Cell Cells Blk Sl Rows Own Src Fresh
attribute [local irreducible] regret areItems areKnown subB bestUtil smallest idsOf weightLists okSet greedy


set_option maxHeartbeats 8000000 in
theorem law_Regrets {w : World} {vC : Value} {C : List Int} {pC : List Nat} (hC : Sl u8R w vC C pC) :
    Run Try.prog 4 [vC] w (fun r w' => r = .bool true ∧ Keep w w') := by
  refine Run_intro Try.func4 (by unfold CallOk; kernel_rfl) rfl Try.ntmps4 (Nat.le_of_ble_eq_true rfl) ?_
  simp only [penv, Nat.reduceAdd, Nat.zero_add]
  repeat refine zz ?_
  refine o_call rfl rfl rfl (big_ok hC) ?_
  rintro _ _ ⟨rfl, rfl⟩
  repeat refine zz ?_
  refine W_cond rfl (fun hbig => ?_) (fun hbig => ?_)
  · repeat refine zz ?_
    exact ret1 rfl rfl ⟨rfl, Keep.refl _⟩
  simp at hbig
  repeat refine zz ?_
  refine o_call rfl rfl rfl (DrawRegretOf_ok hC (by omega)) ?_
  rintro _ w1 ⟨hk, vl, va, L, a, fl, fa, rfl, hL, hlL, hsL, ha, hla⟩
  replace hC := hC.keep hk
  repeat refine zz ?_
  refine o_call rfl rfl rfl (impl_RegretOf_ok hL ha) ?_
  rintro _ w2 ⟨k2, u2, f2, rfl, h2, _⟩
  replace hL := hL.keep k2
  replace ha := ha.keep k2
  replace hk := hk.keep k2
  replace hC := hC.keep k2
  repeat refine zz ?_
  refine o_call rfl rfl rfl (spec_RegretOf_ok hL ha) ?_
  rintro _ w3 ⟨k3, u3, f3, rfl, h3, _⟩
  replace hL := hL.keep k3
  replace ha := ha.keep k3
  replace hk := hk.keep k3
  replace hC := hC.keep k3
  replace h2 := h2.keep k3
  repeat refine zz ?_
  try (refine WL_part rfl rfl (fun hc => by exfalso; first | (simp at hc; done) | (simp at hc; omega) | omega) (fun _ => ?_))
  repeat refine zz ?_
  try (refine WL_part rfl rfl (fun hc => by exfalso; first | (simp at hc; done) | (simp at hc; omega) | omega) (fun _ => ?_))
  repeat refine zz ?_
  refine o_call rfl rfl rfl (sameInts_same h2 h3) ?_
  rintro _ w4 ⟨rfl, k4⟩
  replace hL := hL.keep k4
  replace ha := ha.keep k4
  replace hk := hk.keep k4
  replace hC := hC.keep k4
  replace h2 := h2.keep k4
  replace h3 := h3.keep k4
  repeat refine zz ?_
  refine o_call rfl rfl rfl (impl_WeightLists_ok _) ?_
  rintro vw w5 ⟨k5, f5, h5, _⟩
  obtain ⟨Aw, nw, cw, rfl, hnw⟩ := h5.split
  rw [wls_len] at hnw
  subst hnw
  replace hL := hL.keep k5
  replace ha := ha.keep k5
  replace hk := hk.keep k5
  replace hC := hC.keep k5
  replace h2 := h2.keep k5
  replace h3 := h3.keep k5
  clear h5
  repeat refine zz ?_
  try (refine W_cond rfl (fun hc => by exfalso; first | (simp at hc; done) | (simp at hc; omega) | omega) (fun _ => ?_))
  repeat refine zz ?_
  refine o_call rfl rfl rfl (spec_IdsOf_ok hL (by omega)) ?_
  rintro vi w6 ⟨k6, f6, hI, _⟩
  replace hL := hL.keep k6
  replace ha := ha.keep k6
  replace hk := hk.keep k6
  replace hC := hC.keep k6
  replace h2 := h2.keep k6
  replace h3 := h3.keep k6
  repeat refine zz ?_
  refine o_call rfl rfl rfl (spec_WeightLists_ok _) ?_
  rintro vw w7 ⟨k7, f7, hW, _⟩
  replace hL := hL.keep k7
  replace ha := ha.keep k7
  replace hk := hk.keep k7
  replace hC := hC.keep k7
  replace h2 := h2.keep k7
  replace h3 := h3.keep k7
  replace hI := hI.keep k7
  obtain ⟨Aw2, nw2, cw2, rfl, hnw2⟩ := hW.split
  rw [wls_len] at hnw2
  subst hnw2
  have hrb := regret_bd L a
  obtain ⟨AI, nI, cI, rfl, hnI⟩ := hI.split
  have hil := idsOf_len L
  obtain ⟨Aa, na, ca, rfl, hna⟩ := ha.split
  repeat refine zz ?_
  refine W_cut [(0, vC), (3, vl), (4, .slice Aa na ca), (5, .int .i64 (regret L a).1), (6, .int .i64 (regret L a).2.1), (11, .slice AI nI cI)] (fun w' => Keep w7 w') ?_ ?_
  · intro wz hkz
    replace hk := hk.keep hkz
    replace hL := hL.keep hkz
    replace ha := ha.keep hkz
    replace hC := hC.keep hkz
    replace hI := hI.keep hkz
    clear hW h2 h3
    repeat refine zz ?_
    refine W_cut [(0, vC)] (fun w' => Keep wz w') ?_ ?_
    · intro wy hky
      replace hk := hk.keep hky
      replace hC := hC.keep hky
      clear hL ha hI
      repeat refine zz ?_
      refine o_call rfl rfl rfl (DrawSmallestSet_ok hC (by omega)) ?_
      rintro _ wA ⟨kA, vx, X, p, q, fx, rfl, hX, _, _⟩
      replace hk := hk.keep kA
      replace hC := hC.keep kA
      repeat refine zz ?_
      refine o_call rfl rfl rfl (impl_SmallestSet_ok hX p q) ?_
      rintro _ wB ⟨kB, vs, fs, rfl, hs, _⟩
      replace hk := hk.keep kB
      replace hC := hC.keep kB
      replace hX := hX.keep kB
      repeat refine zz ?_
      refine o_call rfl rfl rfl (spec_SmallestSet_ok hX p q) ?_
      rintro _ wD ⟨kD, vt, ft, rfl, ht, _⟩
      replace hk := hk.keep kD
      replace hC := hC.keep kD
      replace hX := hX.keep kD
      replace hs := hs.keep kD
      have hlen := smallest_len (L := X) (p := p) (q := q)
      repeat refine zz ?_
      refine WL_part rfl rfl (fun hc => by exfalso; simp at hc) (fun _ => ?_)
      repeat refine zz ?_
      refine o_call rfl rfl rfl (sameInts_same hs ht) ?_
      rintro _ wE ⟨rfl, kE⟩
      replace hk := hk.keep kE
      replace hC := hC.keep kE
      replace hX := hX.keep kE
      replace ht := ht.keep kE
      repeat refine zz ?_
      refine W_cond rfl (fun h1 => ?_) (fun h1 => ?_)
      · obtain ⟨t, hst⟩ := Option.isSome_iff_exists.1 h1
        rw [hst] at ht hlen
        simp only [Option.getD_some] at ht hlen
        obtain ⟨hsm, _, hokt, _⟩ := smallest_min hst
        have hspare := fun i hi => smallest_spare hst (i := i) hi
        obtain ⟨_, hX8, hq, hp⟩ := smOk_parts hsm
        obtain ⟨hb1, hb2⟩ := spare_bd X t hp hq
        have hle : (regret X t).1 * q ≤ p * (regret X t).2.1 := by unfold okSet at hokt; simpa using hokt
        obtain ⟨At, nt, ct, rfl, hnt⟩ := ht.split
        repeat refine zz ?_
        refine o_call rfl rfl rfl (spec_RegretOf_ok hX ht) ?_
        rintro _ wF ⟨kF, uF, fF, rfl, _, _⟩
        replace hk := hk.keep kF
        replace hC := hC.keep kF
        replace hX := hX.keep kF
        replace ht := ht.keep kF
        repeat refine zz ?_
        refine WL_pure rfl rfl (o_mul rfl rfl hb1) ?_
        repeat refine zz ?_
        refine WL_pure rfl rfl (o_mul rfl rfl hb2) ?_
        repeat refine zz ?_
        try (refine W_cond rfl (fun hc => by exfalso; first | (simp at hc; done) | (simp at hc; omega) | omega) (fun _ => ?_))
        repeat refine zz ?_
        refine W_loop (S := Nat) (fun k => [(0, vC), (20, vx), (21, .int .i64 p), (22, .int .i64 q), (25, .slice At nt ct), (30, .int .i64 (k : Int))]) (fun k w' => Keep wF w' ∧ k ≤ nt) (fun k => nt - k) 0 ⟨rfl, rfl, rfl, rfl, rfl, rfl, trivial⟩ ⟨Keep.refl _, Nat.zero_le _⟩ ?_
        rintro k wa ⟨hka, hkn⟩
        have hXa := hX.keep hka
        have haa := ht.keep hka
        have hcaps := haa.caps
        repeat refine zz ?_
        refine W_cond rfl (fun hc => ?_) (fun hc => ?_)
        · have hkl : k < nt := by simp at hc; omega
          have hsp := hspare k (by omega)
          obtain ⟨hb3, hb4⟩ := spare_bd X (t.take k ++ t.drop (k + 1)) hp hq
          have hgt : ¬ (regret X (t.take k ++ t.drop (k + 1))).1 * q ≤ p * (regret X (t.take k ++ t.drop (k + 1))).2.1 := by unfold okSet at hsp; simpa using hsp
          obtain ⟨gh, hseg1, _⟩ := haa.hi (k := k) (by omega)
          obtain ⟨gl, hseg2, _⟩ := haa.lo (k := k + 1) (by omega)
          repeat refine zz ?_
          refine W_draw (Keep wa) (by kernel_rfl) ?_
          have hS : Keep wa (World.drew wa) := Keep.drew wa
          have hS0 := hS.size_le
          first|refine d_o 0 ?_|refine d_a 0 ?_|refine d_s 0 ?_|refine d_n 0 ?_|refine d_i 0 ?_|refine d_f 0 ?_|refine d_b 0 ?_|refine d_d 0 ?_|refine d_l1 0 ?_|refine d_l2 0 ?_|refine d_l3 0 ?_|refine d_l4 0 ?_|refine d_l5 0 ?_|refine d_l6 0 ?_|refine d_l7 0 ?_|refine d_l8 0 ?_|refine d_l9 0 ?_|refine d_g 0 ?_|refine d_q 0 ?_|refine d_e 0 ?_|refine d_j 0 ?_
          first|refine d_o 2 ?_|refine d_a 2 ?_|refine d_s 2 ?_|refine d_n 2 ?_|refine d_i 2 ?_|refine d_f 2 ?_|refine d_b 2 ?_|refine d_d 2 ?_|refine d_l1 2 ?_|refine d_l2 2 ?_|refine d_l3 2 ?_|refine d_l4 2 ?_|refine d_l5 2 ?_|refine d_l6 2 ?_|refine d_l7 2 ?_|refine d_l8 2 ?_|refine d_l9 2 ?_|refine d_g 2 ?_|refine d_q 2 ?_|refine d_e 2 ?_|refine d_j 2 ?_
          first|refine d_o 3 ?_|refine d_a 3 ?_|refine d_s 3 ?_|refine d_n 3 ?_|refine d_i 3 ?_|refine d_f 3 ?_|refine d_b 3 ?_|refine d_d 3 ?_|refine d_l1 3 ?_|refine d_l2 3 ?_|refine d_l3 3 ?_|refine d_l4 3 ?_|refine d_l5 3 ?_|refine d_l6 3 ?_|refine d_l7 3 ?_|refine d_l8 3 ?_|refine d_l9 3 ?_|refine d_g 3 ?_|refine d_q 3 ?_|refine d_e 3 ?_|refine d_j 3 ?_
          refine WD_take 4 rfl (by kernel_rfl) (by kernel_rfl) (by kernel_rfl) (by repeat (first | exact np_ret | refine np_then ?_ | refine np_in ?_)) rfl rfl (fun w' _ => o_slice_hi (h := k) rfl rfl (by omega)) hS ?_
          first|refine d_o 6 ?_|refine d_a 6 ?_|refine d_s 6 ?_|refine d_n 6 ?_|refine d_i 6 ?_|refine d_f 6 ?_|refine d_b 6 ?_|refine d_d 6 ?_|refine d_l1 6 ?_|refine d_l2 6 ?_|refine d_l3 6 ?_|refine d_l4 6 ?_|refine d_l5 6 ?_|refine d_l6 6 ?_|refine d_l7 6 ?_|refine d_l8 6 ?_|refine d_l9 6 ?_|refine d_g 6 ?_|refine d_q 6 ?_|refine d_e 6 ?_|refine d_j 6 ?_
          first|refine d_o 7 ?_|refine d_a 7 ?_|refine d_s 7 ?_|refine d_n 7 ?_|refine d_i 7 ?_|refine d_f 7 ?_|refine d_b 7 ?_|refine d_d 7 ?_|refine d_l1 7 ?_|refine d_l2 7 ?_|refine d_l3 7 ?_|refine d_l4 7 ?_|refine d_l5 7 ?_|refine d_l6 7 ?_|refine d_l7 7 ?_|refine d_l8 7 ?_|refine d_l9 7 ?_|refine d_g 7 ?_|refine d_q 7 ?_|refine d_e 7 ?_|refine d_j 7 ?_
          first|refine d_o 8 ?_|refine d_a 8 ?_|refine d_s 8 ?_|refine d_n 8 ?_|refine d_i 8 ?_|refine d_f 8 ?_|refine d_b 8 ?_|refine d_d 8 ?_|refine d_l1 8 ?_|refine d_l2 8 ?_|refine d_l3 8 ?_|refine d_l4 8 ?_|refine d_l5 8 ?_|refine d_l6 8 ?_|refine d_l7 8 ?_|refine d_l8 8 ?_|refine d_l9 8 ?_|refine d_g 8 ?_|refine d_q 8 ?_|refine d_e 8 ?_|refine d_j 8 ?_
          refine WD_take 9 rfl (by kernel_rfl) (by kernel_rfl) (by kernel_rfl) (by repeat (first | exact np_ret | refine np_then ?_ | refine np_in ?_)) rfl rfl (fun w' _ => o_slice_lo (l := k + 1) rfl rfl (by omega)) hS ?_
          refine WD_one 1 (by kernel_rfl) rfl ?_
          refine o_buildSlice rfl rfl rfl rfl rfl (by intro p hp; cases hp) (by omega) ?_
          intro b5 w5 hal5
          have ho5 : OwnF intR w5 wa.heap.size 3 (.slice (some ⟨b5, 0, none⟩) 0 0) [] [] := OwnF.made hal5.blk (by have := hal5.b_eq; omega)
          replace hS := hS.keep hal5.kp
          have hb5e := hal5.b_eq
          have hz5 := hal5.size
          have hS5 := hS.size_le
          try replace hb7 := hb7.keep hal5.kp
          refine WL_end ⟨hS, ?_⟩
          refine WD_one 5 (by kernel_rfl) rfl ?_
          obtain ⟨g5, hsrc5, _⟩ := (hseg1.keep hS).src
          obtain rfl := hsrc5.nofp
          refine o_appendF (R := intR) (M := _) (gi := []) rfl rfl rfl rfl rfl (by decide) ho5 hsrc5 (by rw [List.length_take]; omega) (Fresh.nil _ _) (fun b hb => by simp at hb) (fun b hb => (ho5.lt hb).2) (fun b hb => by simp at hb) (by rw [List.length_take]; simp only [List.length_nil]; omega) (by rw [List.length_take]; simp only [List.length_nil]; omega) (by omega) ?_
          intro v6 w6 ho6 hb6 hg6
          rw [List.nil_append] at ho6
          replace hS := hS.grown hg6 (fun b hb => (ho5.lt hb).1)
          have hS6 := hS.size_le
          refine WL_end ⟨hS, ?_⟩
          refine WD_one 10 (by kernel_rfl) rfl ?_
          obtain ⟨g7, hsrc7, _⟩ := (hseg2.keep hS).src
          obtain rfl := hsrc7.nofp
          refine o_appendF (R := intR) (M := _) (gi := []) rfl rfl rfl rfl rfl (by decide) ho6 hsrc7 (by rw [List.length_drop]; omega) (Fresh.nil _ _) (fun b hb => by simp at hb) (fun b hb => (ho6.lt hb).2) (fun b hb => by simp at hb) (by rw [List.length_take, List.length_drop]; omega) (by rw [List.length_take, List.length_drop]; omega) (by omega) ?_
          intro v8 w8 ho8 hb8 hg8
          replace hS := hS.grown hg8 (fun b hb => (ho6.lt hb).1)
          obtain ⟨f8, hs8, hf8⟩ := ho8.sl (by decide)
          refine WL_end ⟨hS, ?_⟩
          refine WD_one 11 (by kernel_rfl) rfl ?_
          refine o_call rfl rfl rfl (spec_RegretOf_ok (hXa.keep hS) hs8) ?_
          rintro _ w9 ⟨hk9, u9, f9, rfl, hs9, hf9⟩
          replace hS := hS.keep hk9
          refine WL_end ⟨hS, ?_⟩
          first|refine d_o 12 ?_|refine d_a 12 ?_|refine d_s 12 ?_|refine d_n 12 ?_|refine d_i 12 ?_|refine d_f 12 ?_|refine d_b 12 ?_|refine d_d 12 ?_|refine d_l1 12 ?_|refine d_l2 12 ?_|refine d_l3 12 ?_|refine d_l4 12 ?_|refine d_l5 12 ?_|refine d_l6 12 ?_|refine d_l7 12 ?_|refine d_l8 12 ?_|refine d_l9 12 ?_|refine d_g 12 ?_|refine d_q 12 ?_|refine d_e 12 ?_|refine d_j 12 ?_
          first|refine d_o 13 ?_|refine d_a 13 ?_|refine d_s 13 ?_|refine d_n 13 ?_|refine d_i 13 ?_|refine d_f 13 ?_|refine d_b 13 ?_|refine d_d 13 ?_|refine d_l1 13 ?_|refine d_l2 13 ?_|refine d_l3 13 ?_|refine d_l4 13 ?_|refine d_l5 13 ?_|refine d_l6 13 ?_|refine d_l7 13 ?_|refine d_l8 13 ?_|refine d_l9 13 ?_|refine d_g 13 ?_|refine d_q 13 ?_|refine d_e 13 ?_|refine d_j 13 ?_
          first|refine d_o 14 ?_|refine d_a 14 ?_|refine d_s 14 ?_|refine d_n 14 ?_|refine d_i 14 ?_|refine d_f 14 ?_|refine d_b 14 ?_|refine d_d 14 ?_|refine d_l1 14 ?_|refine d_l2 14 ?_|refine d_l3 14 ?_|refine d_l4 14 ?_|refine d_l5 14 ?_|refine d_l6 14 ?_|refine d_l7 14 ?_|refine d_l8 14 ?_|refine d_l9 14 ?_|refine d_g 14 ?_|refine d_q 14 ?_|refine d_e 14 ?_|refine d_j 14 ?_
          first|refine d_o 15 ?_|refine d_a 15 ?_|refine d_s 15 ?_|refine d_n 15 ?_|refine d_i 15 ?_|refine d_f 15 ?_|refine d_b 15 ?_|refine d_d 15 ?_|refine d_l1 15 ?_|refine d_l2 15 ?_|refine d_l3 15 ?_|refine d_l4 15 ?_|refine d_l5 15 ?_|refine d_l6 15 ?_|refine d_l7 15 ?_|refine d_l8 15 ?_|refine d_l9 15 ?_|refine d_g 15 ?_|refine d_q 15 ?_|refine d_e 15 ?_|refine d_j 15 ?_
          first|refine d_o 16 ?_|refine d_a 16 ?_|refine d_s 16 ?_|refine d_n 16 ?_|refine d_i 16 ?_|refine d_f 16 ?_|refine d_b 16 ?_|refine d_d 16 ?_|refine d_l1 16 ?_|refine d_l2 16 ?_|refine d_l3 16 ?_|refine d_l4 16 ?_|refine d_l5 16 ?_|refine d_l6 16 ?_|refine d_l7 16 ?_|refine d_l8 16 ?_|refine d_l9 16 ?_|refine d_g 16 ?_|refine d_q 16 ?_|refine d_e 16 ?_|refine d_j 16 ?_
          first|refine d_o 17 ?_|refine d_a 17 ?_|refine d_s 17 ?_|refine d_n 17 ?_|refine d_i 17 ?_|refine d_f 17 ?_|refine d_b 17 ?_|refine d_d 17 ?_|refine d_l1 17 ?_|refine d_l2 17 ?_|refine d_l3 17 ?_|refine d_l4 17 ?_|refine d_l5 17 ?_|refine d_l6 17 ?_|refine d_l7 17 ?_|refine d_l8 17 ?_|refine d_l9 17 ?_|refine d_g 17 ?_|refine d_q 17 ?_|refine d_e 17 ?_|refine d_j 17 ?_
          refine WD_done (by kernel_rfl) ?_
          repeat refine zz ?_
          refine WL_pure rfl rfl (o_mul rfl rfl hb3) ?_
          repeat refine zz ?_
          refine WL_pure rfl rfl (o_mul rfl rfl hb4) ?_
          repeat refine zz ?_
          try (refine W_cond rfl (fun hc => by exfalso; first | (simp at hc; done) | (simp at hc; omega) | omega) (fun _ => ?_))
          repeat refine zz ?_
          exact ⟨k + 1, ⟨rfl, rfl, rfl, rfl, rfl, rfl, trivial⟩, ⟨hka.keep hS, by omega⟩, by omega⟩
        · simp at hc
          obtain rfl : k = nt := by omega
          replace hk := hk.keep hka
          replace hC := hC.keep hka
          clear hXa haa
          repeat refine zz ?_
          refine o_call rfl rfl rfl (DrawGreedySet_ok hC (by omega)) ?_
          rintro _ w20 ⟨k20, vy, Y, size, fy, rfl, hY, _, _⟩
          replace hk := hk.keep k20
          replace hC := hC.keep k20
          repeat refine zz ?_
          refine o_call rfl rfl rfl (DrawUtilityOf_ok hC (by omega)) ?_
          rintro _ w21 ⟨k21, xu, uu, uv, ws, fu, fw, rfl, hu, hlu, hws, hlw⟩
          replace hk := hk.keep k21
          replace hY := hY.keep k21
          have ou := hu.oneCell
          have hYd := hY.dom
          have hud := hu.dom
          have hwd := hws.dom
          repeat refine zz ?_
          refine o_alloc rfl rfl ?_
          intro bx w22 hal22
          have hbx0 := hal22.blk
          have ebx := hal22.b_eq
          have hkz := hk.size_le
          replace hk := hk.keep hal22.kp
          replace hY := hY.keep hal22.kp
          replace hu := hu.keep hal22.kp
          replace hws := hws.keep hal22.kp
          repeat refine zz ?_
          refine o_storeS (b := bx) (off := 0) rfl rfl rfl rfl (by repeat (first | exact ones_nil | refine ones_cons (by first | rfl | assumption) ?_)) rfl hbx0 (by simp) ?_
          intro w23 hu23
          have hbx : Blk w23 bx 50 [.int .i64 xu.id, uu] := hu23.blk
          replace hk := hk.upd hu23 (by omega)
          replace hY := hY.upd hu23 (fun hm => by have := hYd _ hm; omega)
          replace hu := hu.upd hu23 (fun hm => by have := hud _ hm; omega)
          replace hws := hws.upd hu23 (fun hm => by have := hwd _ hm; omega)
          have hbxc := hbx.cells
          repeat refine zz ?_
          refine W_draw (Keep w23) (by kernel_rfl) ?_
          have hS : Keep w23 (World.drew w23) := Keep.drew w23
          first|refine d_o 0 ?_|refine d_a 0 ?_|refine d_s 0 ?_|refine d_n 0 ?_|refine d_i 0 ?_|refine d_f 0 ?_|refine d_b 0 ?_|refine d_d 0 ?_|refine d_l1 0 ?_|refine d_l2 0 ?_|refine d_l3 0 ?_|refine d_l4 0 ?_|refine d_l5 0 ?_|refine d_l6 0 ?_|refine d_l7 0 ?_|refine d_l8 0 ?_|refine d_l9 0 ?_|refine d_g 0 ?_|refine d_q 0 ?_|refine d_e 0 ?_|refine d_j 0 ?_
          first|refine d_o 1 ?_|refine d_a 1 ?_|refine d_s 1 ?_|refine d_n 1 ?_|refine d_i 1 ?_|refine d_f 1 ?_|refine d_b 1 ?_|refine d_d 1 ?_|refine d_l1 1 ?_|refine d_l2 1 ?_|refine d_l3 1 ?_|refine d_l4 1 ?_|refine d_l5 1 ?_|refine d_l6 1 ?_|refine d_l7 1 ?_|refine d_l8 1 ?_|refine d_l9 1 ?_|refine d_g 1 ?_|refine d_q 1 ?_|refine d_e 1 ?_|refine d_j 1 ?_
          first|refine d_o 3 ?_|refine d_a 3 ?_|refine d_s 3 ?_|refine d_n 3 ?_|refine d_i 3 ?_|refine d_f 3 ?_|refine d_b 3 ?_|refine d_d 3 ?_|refine d_l1 3 ?_|refine d_l2 3 ?_|refine d_l3 3 ?_|refine d_l4 3 ?_|refine d_l5 3 ?_|refine d_l6 3 ?_|refine d_l7 3 ?_|refine d_l8 3 ?_|refine d_l9 3 ?_|refine d_g 3 ?_|refine d_q 3 ?_|refine d_e 3 ?_|refine d_j 3 ?_
          first|refine d_o 4 ?_|refine d_a 4 ?_|refine d_s 4 ?_|refine d_n 4 ?_|refine d_i 4 ?_|refine d_f 4 ?_|refine d_b 4 ?_|refine d_d 4 ?_|refine d_l1 4 ?_|refine d_l2 4 ?_|refine d_l3 4 ?_|refine d_l4 4 ?_|refine d_l5 4 ?_|refine d_l6 4 ?_|refine d_l7 4 ?_|refine d_l8 4 ?_|refine d_l9 4 ?_|refine d_g 4 ?_|refine d_q 4 ?_|refine d_e 4 ?_|refine d_j 4 ?_
          refine WD_one 2 (by kernel_rfl) rfl ?_
          refine o_call rfl rfl rfl (impl_GreedySet_ok (hY.keep hS) size) ?_
          rintro vg w24 ⟨k24, fg, hg, _⟩
          replace hS := hS.keep k24
          refine WL_end ⟨hS, ?_⟩
          refine WD_one 5 (by kernel_rfl) rfl ?_
          refine o_call rfl rfl rfl (spec_GreedySet_ok (hY.keep hS) size) ?_
          rintro vh w25 ⟨k25, fh, hh, _⟩
          replace hS := hS.keep k25
          replace hg := hg.keep k25
          refine WL_end ⟨hS, ?_⟩
          refine WD_one 6 (by kernel_rfl) rfl ?_
          refine o_call rfl rfl rfl (sameInts_same hg hh) ?_
          rintro _ w26 ⟨rfl, k26⟩
          replace hS := hS.keep k26
          refine WL_end ⟨hS, ?_⟩
          first|refine d_o 7 ?_|refine d_a 7 ?_|refine d_s 7 ?_|refine d_n 7 ?_|refine d_i 7 ?_|refine d_f 7 ?_|refine d_b 7 ?_|refine d_d 7 ?_|refine d_l1 7 ?_|refine d_l2 7 ?_|refine d_l3 7 ?_|refine d_l4 7 ?_|refine d_l5 7 ?_|refine d_l6 7 ?_|refine d_l7 7 ?_|refine d_l8 7 ?_|refine d_l9 7 ?_|refine d_g 7 ?_|refine d_q 7 ?_|refine d_e 7 ?_|refine d_j 7 ?_
          first|refine d_o 8 ?_|refine d_a 8 ?_|refine d_s 8 ?_|refine d_n 8 ?_|refine d_i 8 ?_|refine d_f 8 ?_|refine d_b 8 ?_|refine d_d 8 ?_|refine d_l1 8 ?_|refine d_l2 8 ?_|refine d_l3 8 ?_|refine d_l4 8 ?_|refine d_l5 8 ?_|refine d_l6 8 ?_|refine d_l7 8 ?_|refine d_l8 8 ?_|refine d_l9 8 ?_|refine d_g 8 ?_|refine d_q 8 ?_|refine d_e 8 ?_|refine d_j 8 ?_
          first|refine d_o 9 ?_|refine d_a 9 ?_|refine d_s 9 ?_|refine d_n 9 ?_|refine d_i 9 ?_|refine d_f 9 ?_|refine d_b 9 ?_|refine d_d 9 ?_|refine d_l1 9 ?_|refine d_l2 9 ?_|refine d_l3 9 ?_|refine d_l4 9 ?_|refine d_l5 9 ?_|refine d_l6 9 ?_|refine d_l7 9 ?_|refine d_l8 9 ?_|refine d_l9 9 ?_|refine d_g 9 ?_|refine d_q 9 ?_|refine d_e 9 ?_|refine d_j 9 ?_
          first|refine d_o 11 ?_|refine d_a 11 ?_|refine d_s 11 ?_|refine d_n 11 ?_|refine d_i 11 ?_|refine d_f 11 ?_|refine d_b 11 ?_|refine d_d 11 ?_|refine d_l1 11 ?_|refine d_l2 11 ?_|refine d_l3 11 ?_|refine d_l4 11 ?_|refine d_l5 11 ?_|refine d_l6 11 ?_|refine d_l7 11 ?_|refine d_l8 11 ?_|refine d_l9 11 ?_|refine d_g 11 ?_|refine d_q 11 ?_|refine d_e 11 ?_|refine d_j 11 ?_
          first|refine d_o 12 ?_|refine d_a 12 ?_|refine d_s 12 ?_|refine d_n 12 ?_|refine d_i 12 ?_|refine d_f 12 ?_|refine d_b 12 ?_|refine d_d 12 ?_|refine d_l1 12 ?_|refine d_l2 12 ?_|refine d_l3 12 ?_|refine d_l4 12 ?_|refine d_l5 12 ?_|refine d_l6 12 ?_|refine d_l7 12 ?_|refine d_l8 12 ?_|refine d_l9 12 ?_|refine d_g 12 ?_|refine d_q 12 ?_|refine d_e 12 ?_|refine d_j 12 ?_
          refine WD_one 10 (by kernel_rfl) rfl ?_
          refine o_call rfl rfl rfl (impl_UtilityOf_ok (hu.keep hS) (hws.keep hS)) ?_
          rintro _ w27 ⟨rfl, k27⟩
          replace hS := hS.keep k27
          refine WL_end ⟨hS, ?_⟩
          refine WD_one 13 (by kernel_rfl) rfl ?_
          refine o_call rfl rfl rfl (spec_UtilityOf_ok (hu.keep hS) (hws.keep hS)) ?_
          rintro _ w28 ⟨rfl, k28⟩
          replace hS := hS.keep k28
          refine WL_end ⟨hS, ?_⟩
          first|refine d_o 14 ?_|refine d_a 14 ?_|refine d_s 14 ?_|refine d_n 14 ?_|refine d_i 14 ?_|refine d_f 14 ?_|refine d_b 14 ?_|refine d_d 14 ?_|refine d_l1 14 ?_|refine d_l2 14 ?_|refine d_l3 14 ?_|refine d_l4 14 ?_|refine d_l5 14 ?_|refine d_l6 14 ?_|refine d_l7 14 ?_|refine d_l8 14 ?_|refine d_l9 14 ?_|refine d_g 14 ?_|refine d_q 14 ?_|refine d_e 14 ?_|refine d_j 14 ?_
          first|refine d_o 15 ?_|refine d_a 15 ?_|refine d_s 15 ?_|refine d_n 15 ?_|refine d_i 15 ?_|refine d_f 15 ?_|refine d_b 15 ?_|refine d_d 15 ?_|refine d_l1 15 ?_|refine d_l2 15 ?_|refine d_l3 15 ?_|refine d_l4 15 ?_|refine d_l5 15 ?_|refine d_l6 15 ?_|refine d_l7 15 ?_|refine d_l8 15 ?_|refine d_l9 15 ?_|refine d_g 15 ?_|refine d_q 15 ?_|refine d_e 15 ?_|refine d_j 15 ?_
          first|refine d_o 16 ?_|refine d_a 16 ?_|refine d_s 16 ?_|refine d_n 16 ?_|refine d_i 16 ?_|refine d_f 16 ?_|refine d_b 16 ?_|refine d_d 16 ?_|refine d_l1 16 ?_|refine d_l2 16 ?_|refine d_l3 16 ?_|refine d_l4 16 ?_|refine d_l5 16 ?_|refine d_l6 16 ?_|refine d_l7 16 ?_|refine d_l8 16 ?_|refine d_l9 16 ?_|refine d_g 16 ?_|refine d_q 16 ?_|refine d_e 16 ?_|refine d_j 16 ?_
          refine WD_done (by kernel_rfl) ?_
          repeat refine zz ?_
          exact ret1 rfl rfl ⟨by simp, hk.keep hS⟩
      · repeat refine zz ?_
        refine o_call rfl rfl rfl (DrawGreedySet_ok hC (by omega)) ?_
        rintro _ w20 ⟨k20, vy, Y, size, fy, rfl, hY, _, _⟩
        replace hk := hk.keep k20
        replace hC := hC.keep k20
        repeat refine zz ?_
        refine o_call rfl rfl rfl (DrawUtilityOf_ok hC (by omega)) ?_
        rintro _ w21 ⟨k21, xu, uu, uv, ws, fu, fw, rfl, hu, hlu, hws, hlw⟩
        replace hk := hk.keep k21
        replace hY := hY.keep k21
        have ou := hu.oneCell
        have hYd := hY.dom
        have hud := hu.dom
        have hwd := hws.dom
        repeat refine zz ?_
        refine o_alloc rfl rfl ?_
        intro bx w22 hal22
        have hbx0 := hal22.blk
        have ebx := hal22.b_eq
        have hkz := hk.size_le
        replace hk := hk.keep hal22.kp
        replace hY := hY.keep hal22.kp
        replace hu := hu.keep hal22.kp
        replace hws := hws.keep hal22.kp
        repeat refine zz ?_
        refine o_storeS (b := bx) (off := 0) rfl rfl rfl rfl (by repeat (first | exact ones_nil | refine ones_cons (by first | rfl | assumption) ?_)) rfl hbx0 (by simp) ?_
        intro w23 hu23
        have hbx : Blk w23 bx 50 [.int .i64 xu.id, uu] := hu23.blk
        replace hk := hk.upd hu23 (by omega)
        replace hY := hY.upd hu23 (fun hm => by have := hYd _ hm; omega)
        replace hu := hu.upd hu23 (fun hm => by have := hud _ hm; omega)
        replace hws := hws.upd hu23 (fun hm => by have := hwd _ hm; omega)
        have hbxc := hbx.cells
        repeat refine zz ?_
        refine W_draw (Keep w23) (by kernel_rfl) ?_
        have hS : Keep w23 (World.drew w23) := Keep.drew w23
        first|refine d_o 0 ?_|refine d_a 0 ?_|refine d_s 0 ?_|refine d_n 0 ?_|refine d_i 0 ?_|refine d_f 0 ?_|refine d_b 0 ?_|refine d_d 0 ?_|refine d_l1 0 ?_|refine d_l2 0 ?_|refine d_l3 0 ?_|refine d_l4 0 ?_|refine d_l5 0 ?_|refine d_l6 0 ?_|refine d_l7 0 ?_|refine d_l8 0 ?_|refine d_l9 0 ?_|refine d_g 0 ?_|refine d_q 0 ?_|refine d_e 0 ?_|refine d_j 0 ?_
        first|refine d_o 1 ?_|refine d_a 1 ?_|refine d_s 1 ?_|refine d_n 1 ?_|refine d_i 1 ?_|refine d_f 1 ?_|refine d_b 1 ?_|refine d_d 1 ?_|refine d_l1 1 ?_|refine d_l2 1 ?_|refine d_l3 1 ?_|refine d_l4 1 ?_|refine d_l5 1 ?_|refine d_l6 1 ?_|refine d_l7 1 ?_|refine d_l8 1 ?_|refine d_l9 1 ?_|refine d_g 1 ?_|refine d_q 1 ?_|refine d_e 1 ?_|refine d_j 1 ?_
        first|refine d_o 3 ?_|refine d_a 3 ?_|refine d_s 3 ?_|refine d_n 3 ?_|refine d_i 3 ?_|refine d_f 3 ?_|refine d_b 3 ?_|refine d_d 3 ?_|refine d_l1 3 ?_|refine d_l2 3 ?_|refine d_l3 3 ?_|refine d_l4 3 ?_|refine d_l5 3 ?_|refine d_l6 3 ?_|refine d_l7 3 ?_|refine d_l8 3 ?_|refine d_l9 3 ?_|refine d_g 3 ?_|refine d_q 3 ?_|refine d_e 3 ?_|refine d_j 3 ?_
        first|refine d_o 4 ?_|refine d_a 4 ?_|refine d_s 4 ?_|refine d_n 4 ?_|refine d_i 4 ?_|refine d_f 4 ?_|refine d_b 4 ?_|refine d_d 4 ?_|refine d_l1 4 ?_|refine d_l2 4 ?_|refine d_l3 4 ?_|refine d_l4 4 ?_|refine d_l5 4 ?_|refine d_l6 4 ?_|refine d_l7 4 ?_|refine d_l8 4 ?_|refine d_l9 4 ?_|refine d_g 4 ?_|refine d_q 4 ?_|refine d_e 4 ?_|refine d_j 4 ?_
        refine WD_one 2 (by kernel_rfl) rfl ?_
        refine o_call rfl rfl rfl (impl_GreedySet_ok (hY.keep hS) size) ?_
        rintro vg w24 ⟨k24, fg, hg, _⟩
        replace hS := hS.keep k24
        refine WL_end ⟨hS, ?_⟩
        refine WD_one 5 (by kernel_rfl) rfl ?_
        refine o_call rfl rfl rfl (spec_GreedySet_ok (hY.keep hS) size) ?_
        rintro vh w25 ⟨k25, fh, hh, _⟩
        replace hS := hS.keep k25
        replace hg := hg.keep k25
        refine WL_end ⟨hS, ?_⟩
        refine WD_one 6 (by kernel_rfl) rfl ?_
        refine o_call rfl rfl rfl (sameInts_same hg hh) ?_
        rintro _ w26 ⟨rfl, k26⟩
        replace hS := hS.keep k26
        refine WL_end ⟨hS, ?_⟩
        first|refine d_o 7 ?_|refine d_a 7 ?_|refine d_s 7 ?_|refine d_n 7 ?_|refine d_i 7 ?_|refine d_f 7 ?_|refine d_b 7 ?_|refine d_d 7 ?_|refine d_l1 7 ?_|refine d_l2 7 ?_|refine d_l3 7 ?_|refine d_l4 7 ?_|refine d_l5 7 ?_|refine d_l6 7 ?_|refine d_l7 7 ?_|refine d_l8 7 ?_|refine d_l9 7 ?_|refine d_g 7 ?_|refine d_q 7 ?_|refine d_e 7 ?_|refine d_j 7 ?_
        first|refine d_o 8 ?_|refine d_a 8 ?_|refine d_s 8 ?_|refine d_n 8 ?_|refine d_i 8 ?_|refine d_f 8 ?_|refine d_b 8 ?_|refine d_d 8 ?_|refine d_l1 8 ?_|refine d_l2 8 ?_|refine d_l3 8 ?_|refine d_l4 8 ?_|refine d_l5 8 ?_|refine d_l6 8 ?_|refine d_l7 8 ?_|refine d_l8 8 ?_|refine d_l9 8 ?_|refine d_g 8 ?_|refine d_q 8 ?_|refine d_e 8 ?_|refine d_j 8 ?_
        first|refine d_o 9 ?_|refine d_a 9 ?_|refine d_s 9 ?_|refine d_n 9 ?_|refine d_i 9 ?_|refine d_f 9 ?_|refine d_b 9 ?_|refine d_d 9 ?_|refine d_l1 9 ?_|refine d_l2 9 ?_|refine d_l3 9 ?_|refine d_l4 9 ?_|refine d_l5 9 ?_|refine d_l6 9 ?_|refine d_l7 9 ?_|refine d_l8 9 ?_|refine d_l9 9 ?_|refine d_g 9 ?_|refine d_q 9 ?_|refine d_e 9 ?_|refine d_j 9 ?_
        first|refine d_o 11 ?_|refine d_a 11 ?_|refine d_s 11 ?_|refine d_n 11 ?_|refine d_i 11 ?_|refine d_f 11 ?_|refine d_b 11 ?_|refine d_d 11 ?_|refine d_l1 11 ?_|refine d_l2 11 ?_|refine d_l3 11 ?_|refine d_l4 11 ?_|refine d_l5 11 ?_|refine d_l6 11 ?_|refine d_l7 11 ?_|refine d_l8 11 ?_|refine d_l9 11 ?_|refine d_g 11 ?_|refine d_q 11 ?_|refine d_e 11 ?_|refine d_j 11 ?_
        first|refine d_o 12 ?_|refine d_a 12 ?_|refine d_s 12 ?_|refine d_n 12 ?_|refine d_i 12 ?_|refine d_f 12 ?_|refine d_b 12 ?_|refine d_d 12 ?_|refine d_l1 12 ?_|refine d_l2 12 ?_|refine d_l3 12 ?_|refine d_l4 12 ?_|refine d_l5 12 ?_|refine d_l6 12 ?_|refine d_l7 12 ?_|refine d_l8 12 ?_|refine d_l9 12 ?_|refine d_g 12 ?_|refine d_q 12 ?_|refine d_e 12 ?_|refine d_j 12 ?_
        refine WD_one 10 (by kernel_rfl) rfl ?_
        refine o_call rfl rfl rfl (impl_UtilityOf_ok (hu.keep hS) (hws.keep hS)) ?_
        rintro _ w27 ⟨rfl, k27⟩
        replace hS := hS.keep k27
        refine WL_end ⟨hS, ?_⟩
        refine WD_one 13 (by kernel_rfl) rfl ?_
        refine o_call rfl rfl rfl (spec_UtilityOf_ok (hu.keep hS) (hws.keep hS)) ?_
        rintro _ w28 ⟨rfl, k28⟩
        replace hS := hS.keep k28
        refine WL_end ⟨hS, ?_⟩
        first|refine d_o 14 ?_|refine d_a 14 ?_|refine d_s 14 ?_|refine d_n 14 ?_|refine d_i 14 ?_|refine d_f 14 ?_|refine d_b 14 ?_|refine d_d 14 ?_|refine d_l1 14 ?_|refine d_l2 14 ?_|refine d_l3 14 ?_|refine d_l4 14 ?_|refine d_l5 14 ?_|refine d_l6 14 ?_|refine d_l7 14 ?_|refine d_l8 14 ?_|refine d_l9 14 ?_|refine d_g 14 ?_|refine d_q 14 ?_|refine d_e 14 ?_|refine d_j 14 ?_
        first|refine d_o 15 ?_|refine d_a 15 ?_|refine d_s 15 ?_|refine d_n 15 ?_|refine d_i 15 ?_|refine d_f 15 ?_|refine d_b 15 ?_|refine d_d 15 ?_|refine d_l1 15 ?_|refine d_l2 15 ?_|refine d_l3 15 ?_|refine d_l4 15 ?_|refine d_l5 15 ?_|refine d_l6 15 ?_|refine d_l7 15 ?_|refine d_l8 15 ?_|refine d_l9 15 ?_|refine d_g 15 ?_|refine d_q 15 ?_|refine d_e 15 ?_|refine d_j 15 ?_
        first|refine d_o 16 ?_|refine d_a 16 ?_|refine d_s 16 ?_|refine d_n 16 ?_|refine d_i 16 ?_|refine d_f 16 ?_|refine d_b 16 ?_|refine d_d 16 ?_|refine d_l1 16 ?_|refine d_l2 16 ?_|refine d_l3 16 ?_|refine d_l4 16 ?_|refine d_l5 16 ?_|refine d_l6 16 ?_|refine d_l7 16 ?_|refine d_l8 16 ?_|refine d_l9 16 ?_|refine d_g 16 ?_|refine d_q 16 ?_|refine d_e 16 ?_|refine d_j 16 ?_
        refine WD_done (by kernel_rfl) ?_
        repeat refine zz ?_
        exact ret1 rfl rfl ⟨by simp, hk.keep hS⟩
    refine W_loop (S := Nat) (fun k => [(0, vC), (3, vl), (4, .slice Aa na ca), (5, .int .i64 (regret L a).1), (6, .int .i64 (regret L a).2.1), (11, .slice AI nI cI), (16, .int .i64 (k : Int))]) (fun k w' => Keep wz w' ∧ k ≤ nI) (fun k => nI - k) 0 ⟨rfl, rfl, rfl, rfl, rfl, rfl, rfl, trivial⟩ ⟨Keep.refl _, Nat.zero_le _⟩ ?_
    rintro k wa ⟨hka, hkn⟩
    have hLa := hL.keep hka
    have haa := ha.keep hka
    have hIa := hI.keep hka
    repeat refine zz ?_
    refine WL_part rfl rfl (fun hc => ?_) (fun hc => ?_)
    · have hkl : k < nI := by simp at hc; omega
      repeat refine zz ?_
      refine o_call rfl rfl rfl (spec_AreItems_ok hLa) ?_
      rintro _ wb ⟨rfl, kb⟩
      replace hka := hka.keep kb
      replace hLa := hLa.keep kb
      replace haa := haa.keep kb
      replace hIa := hIa.keep kb
      repeat refine zz ?_
      refine WL_part rfl rfl (fun h1 => ?_) (fun h1 => ?_)
      · repeat refine zz ?_
        refine o_call rfl rfl rfl (subset_ok haa hIa) ?_
        rintro _ _ ⟨rfl, rfl⟩
        repeat refine zz ?_
        refine W_cond rfl (fun h4 => ?_) (fun h4 => ?_)
        · have hkn2 := sub_known h4
          obtain ⟨hAI, hci⟩ := hIa.getI (i := (k : Int)) (by omega) (by omega)
          have hmono := regret_mono (x := gi (idsOf L) (k : Int)) h1 hkn2
          have hrb2 := regret_bd L (a ++ [gi (idsOf L) (k : Int)])
          have hm1 := mul_pos_bd (a := (regret L (a ++ [gi (idsOf L) (k : Int)])).1) (b := (regret L a).2.1) (by omega) (by omega)
          have hm2 := mul_pos_bd (a := (regret L a).1) (b := (regret L (a ++ [gi (idsOf L) (k : Int)])).2.1) (by omega) (by omega)
          generalize wb = wa at *
          repeat refine zz ?_
          refine W_draw (Keep wa) (by kernel_rfl) ?_
          have hS : Keep wa (World.drew wa) := Keep.drew wa
          have hS0 := hS.size_le
          first|refine d_o 0 ?_|refine d_a 0 ?_|refine d_s 0 ?_|refine d_n 0 ?_|refine d_i 0 ?_|refine d_f 0 ?_|refine d_b 0 ?_|refine d_d 0 ?_|refine d_l1 0 ?_|refine d_l2 0 ?_|refine d_l3 0 ?_|refine d_l4 0 ?_|refine d_l5 0 ?_|refine d_l6 0 ?_|refine d_l7 0 ?_|refine d_l8 0 ?_|refine d_l9 0 ?_|refine d_g 0 ?_|refine d_q 0 ?_|refine d_e 0 ?_|refine d_j 0 ?_
          first|refine d_o 2 ?_|refine d_a 2 ?_|refine d_s 2 ?_|refine d_n 2 ?_|refine d_i 2 ?_|refine d_f 2 ?_|refine d_b 2 ?_|refine d_d 2 ?_|refine d_l1 2 ?_|refine d_l2 2 ?_|refine d_l3 2 ?_|refine d_l4 2 ?_|refine d_l5 2 ?_|refine d_l6 2 ?_|refine d_l7 2 ?_|refine d_l8 2 ?_|refine d_l9 2 ?_|refine d_g 2 ?_|refine d_q 2 ?_|refine d_e 2 ?_|refine d_j 2 ?_
          first|refine d_o 4 ?_|refine d_a 4 ?_|refine d_s 4 ?_|refine d_n 4 ?_|refine d_i 4 ?_|refine d_f 4 ?_|refine d_b 4 ?_|refine d_d 4 ?_|refine d_l1 4 ?_|refine d_l2 4 ?_|refine d_l3 4 ?_|refine d_l4 4 ?_|refine d_l5 4 ?_|refine d_l6 4 ?_|refine d_l7 4 ?_|refine d_l8 4 ?_|refine d_l9 4 ?_|refine d_g 4 ?_|refine d_q 4 ?_|refine d_e 4 ?_|refine d_j 4 ?_
          first|refine d_o 5 ?_|refine d_a 5 ?_|refine d_s 5 ?_|refine d_n 5 ?_|refine d_i 5 ?_|refine d_f 5 ?_|refine d_b 5 ?_|refine d_d 5 ?_|refine d_l1 5 ?_|refine d_l2 5 ?_|refine d_l3 5 ?_|refine d_l4 5 ?_|refine d_l5 5 ?_|refine d_l6 5 ?_|refine d_l7 5 ?_|refine d_l8 5 ?_|refine d_l9 5 ?_|refine d_g 5 ?_|refine d_q 5 ?_|refine d_e 5 ?_|refine d_j 5 ?_
          first|refine d_o 6 ?_|refine d_a 6 ?_|refine d_s 6 ?_|refine d_n 6 ?_|refine d_i 6 ?_|refine d_f 6 ?_|refine d_b 6 ?_|refine d_d 6 ?_|refine d_l1 6 ?_|refine d_l2 6 ?_|refine d_l3 6 ?_|refine d_l4 6 ?_|refine d_l5 6 ?_|refine d_l6 6 ?_|refine d_l7 6 ?_|refine d_l8 6 ?_|refine d_l9 6 ?_|refine d_g 6 ?_|refine d_q 6 ?_|refine d_e 6 ?_|refine d_j 6 ?_
          first|refine d_o 7 ?_|refine d_a 7 ?_|refine d_s 7 ?_|refine d_n 7 ?_|refine d_i 7 ?_|refine d_f 7 ?_|refine d_b 7 ?_|refine d_d 7 ?_|refine d_l1 7 ?_|refine d_l2 7 ?_|refine d_l3 7 ?_|refine d_l4 7 ?_|refine d_l5 7 ?_|refine d_l6 7 ?_|refine d_l7 7 ?_|refine d_l8 7 ?_|refine d_l9 7 ?_|refine d_g 7 ?_|refine d_q 7 ?_|refine d_e 7 ?_|refine d_j 7 ?_
          refine WD_two 1 8  (by kernel_rfl) rfl rfl ?_ ?_
          · refine o_buildSlice rfl rfl rfl rfl rfl (by intro p hp; cases hp) (by omega) ?_
            intro b5 w5 hal5
            have ho5 : OwnF intR w5 wa.heap.size 3 (.slice (some ⟨b5, 0, none⟩) 0 0) [] [] := OwnF.made hal5.blk (by have := hal5.b_eq; omega)
            replace hS := hS.keep hal5.kp
            have hb5e := hal5.b_eq
            have hz5 := hal5.size
            have hS5 := hS.size_le
            try replace hb7 := hb7.keep hal5.kp
            refine WL_end ⟨hS, ?_⟩
            refine WD_two 3 8  (by kernel_rfl) rfl rfl ?_ ?_
            · obtain ⟨g5, hsrc5, _⟩ := (haa.keep hS).src
              obtain rfl := hsrc5.nofp
              refine o_appendF (R := intR) (M := _) (gi := []) rfl rfl rfl rfl rfl (by decide) ho5 hsrc5 (by omega) (Fresh.nil _ _) (fun b hb => by simp at hb) (fun b hb => (ho5.lt hb).2) (fun b hb => by simp at hb) (by simp only [List.length_nil]; omega) (by simp only [List.length_nil]; omega) (by omega) ?_
              intro v6 w6 ho6 hb6 hg6
              rw [List.nil_append] at ho6
              replace hS := hS.grown hg6 (fun b hb => (ho5.lt hb).1)
              have hS6 := hS.size_le
              try replace hb7 := hb7.grown hg6 (fun e => by simp [Value.ownBlock] at e; omega)
              refine WL_end ⟨hS, ?_⟩
              refine WD_one 8 (by kernel_rfl) rfl ?_
              refine o_buildSlice rfl rfl rfl rfl rfl (by simp [Value.cells]) (by omega) ?_
              intro b7 w7 hal7
              replace hS := hS.keep hal7.kp
              have hb7e := hal7.b_eq
              have hz7 := hal7.size
              have hS7 := hS.size_le
              have hb7 := hal7.blk
              try replace ho5 := ho5.keep hal7.kp
              try replace ho6 := ho6.keep hal7.kp
              refine WL_end ⟨hS, ?_⟩
              refine WD_one 9 (by kernel_rfl) rfl ?_
              refine o_appendF (R := intR) (M := _) (gi := []) rfl rfl rfl rfl rfl (by decide) ho6 (Blk.src (xs := [gi (idsOf L) (k : Int)]) hb7 (Rows.ints _ _)) rfl (Fresh.nil _ _) (fun b hb => by simp at hb) (fun b hb => (ho6.lt hb).2) (fun b hb => by simp at hb) (by simp only [List.length_cons, List.length_nil]; omega) (by simp only [List.length_cons, List.length_nil]; omega) (by omega) ?_
              intro v8 w8 ho8 hb8 hg8
              replace hS := hS.grown hg8 (fun b hb => (ho6.lt hb).1)
              obtain ⟨f8, hs8, hf8⟩ := ho8.sl (by decide)
              refine WL_end ⟨hS, ?_⟩
              refine WD_one 10 (by kernel_rfl) rfl ?_
              refine o_call rfl rfl rfl (impl_RegretOf_ok (hLa.keep hS) hs8) ?_
              rintro _ w9 ⟨hk9, u9, f9, rfl, hs9, hf9⟩
              replace hS := hS.keep hk9
              refine WL_end ⟨hS, ?_⟩
              first|refine d_o 11 ?_|refine d_a 11 ?_|refine d_s 11 ?_|refine d_n 11 ?_|refine d_i 11 ?_|refine d_f 11 ?_|refine d_b 11 ?_|refine d_d 11 ?_|refine d_l1 11 ?_|refine d_l2 11 ?_|refine d_l3 11 ?_|refine d_l4 11 ?_|refine d_l5 11 ?_|refine d_l6 11 ?_|refine d_l7 11 ?_|refine d_l8 11 ?_|refine d_l9 11 ?_|refine d_g 11 ?_|refine d_q 11 ?_|refine d_e 11 ?_|refine d_j 11 ?_
              first|refine d_o 12 ?_|refine d_a 12 ?_|refine d_s 12 ?_|refine d_n 12 ?_|refine d_i 12 ?_|refine d_f 12 ?_|refine d_b 12 ?_|refine d_d 12 ?_|refine d_l1 12 ?_|refine d_l2 12 ?_|refine d_l3 12 ?_|refine d_l4 12 ?_|refine d_l5 12 ?_|refine d_l6 12 ?_|refine d_l7 12 ?_|refine d_l8 12 ?_|refine d_l9 12 ?_|refine d_g 12 ?_|refine d_q 12 ?_|refine d_e 12 ?_|refine d_j 12 ?_
              first|refine d_o 13 ?_|refine d_a 13 ?_|refine d_s 13 ?_|refine d_n 13 ?_|refine d_i 13 ?_|refine d_f 13 ?_|refine d_b 13 ?_|refine d_d 13 ?_|refine d_l1 13 ?_|refine d_l2 13 ?_|refine d_l3 13 ?_|refine d_l4 13 ?_|refine d_l5 13 ?_|refine d_l6 13 ?_|refine d_l7 13 ?_|refine d_l8 13 ?_|refine d_l9 13 ?_|refine d_g 13 ?_|refine d_q 13 ?_|refine d_e 13 ?_|refine d_j 13 ?_
              first|refine d_o 14 ?_|refine d_a 14 ?_|refine d_s 14 ?_|refine d_n 14 ?_|refine d_i 14 ?_|refine d_f 14 ?_|refine d_b 14 ?_|refine d_d 14 ?_|refine d_l1 14 ?_|refine d_l2 14 ?_|refine d_l3 14 ?_|refine d_l4 14 ?_|refine d_l5 14 ?_|refine d_l6 14 ?_|refine d_l7 14 ?_|refine d_l8 14 ?_|refine d_l9 14 ?_|refine d_g 14 ?_|refine d_q 14 ?_|refine d_e 14 ?_|refine d_j 14 ?_
              first|refine d_o 15 ?_|refine d_a 15 ?_|refine d_s 15 ?_|refine d_n 15 ?_|refine d_i 15 ?_|refine d_f 15 ?_|refine d_b 15 ?_|refine d_d 15 ?_|refine d_l1 15 ?_|refine d_l2 15 ?_|refine d_l3 15 ?_|refine d_l4 15 ?_|refine d_l5 15 ?_|refine d_l6 15 ?_|refine d_l7 15 ?_|refine d_l8 15 ?_|refine d_l9 15 ?_|refine d_g 15 ?_|refine d_q 15 ?_|refine d_e 15 ?_|refine d_j 15 ?_
              first|refine d_o 16 ?_|refine d_a 16 ?_|refine d_s 16 ?_|refine d_n 16 ?_|refine d_i 16 ?_|refine d_f 16 ?_|refine d_b 16 ?_|refine d_d 16 ?_|refine d_l1 16 ?_|refine d_l2 16 ?_|refine d_l3 16 ?_|refine d_l4 16 ?_|refine d_l5 16 ?_|refine d_l6 16 ?_|refine d_l7 16 ?_|refine d_l8 16 ?_|refine d_l9 16 ?_|refine d_g 16 ?_|refine d_q 16 ?_|refine d_e 16 ?_|refine d_j 16 ?_
              first|refine d_o 17 ?_|refine d_a 17 ?_|refine d_s 17 ?_|refine d_n 17 ?_|refine d_i 17 ?_|refine d_f 17 ?_|refine d_b 17 ?_|refine d_d 17 ?_|refine d_l1 17 ?_|refine d_l2 17 ?_|refine d_l3 17 ?_|refine d_l4 17 ?_|refine d_l5 17 ?_|refine d_l6 17 ?_|refine d_l7 17 ?_|refine d_l8 17 ?_|refine d_l9 17 ?_|refine d_g 17 ?_|refine d_q 17 ?_|refine d_e 17 ?_|refine d_j 17 ?_
              refine WD_done (by kernel_rfl) ?_
              repeat refine zz ?_
              refine WL_pure rfl rfl (o_mul rfl rfl (by omega)) ?_
              repeat refine zz ?_
              refine WL_pure rfl rfl (o_mul rfl rfl (by omega)) ?_
              repeat refine zz ?_
              try (refine W_cond rfl (fun hc => by exfalso; first | (simp at hc; done) | (simp at hc; omega) | omega) (fun _ => ?_))
              repeat refine zz ?_
              exact ⟨k + 1, ⟨rfl, rfl, rfl, rfl, rfl, rfl, rfl, trivial⟩, ⟨hka.keep hS, by omega⟩, by omega⟩
            · refine o_buildSlice rfl rfl rfl rfl rfl (by simp [Value.cells]) (by omega) ?_
              intro b7 w7 hal7
              replace hS := hS.keep hal7.kp
              have hb7e := hal7.b_eq
              have hz7 := hal7.size
              have hS7 := hS.size_le
              have hb7 := hal7.blk
              try replace ho5 := ho5.keep hal7.kp
              try replace ho6 := ho6.keep hal7.kp
              refine WL_end ⟨hS, ?_⟩
              refine WD_one 3 (by kernel_rfl) rfl ?_
              obtain ⟨g5, hsrc5, _⟩ := (haa.keep hS).src
              obtain rfl := hsrc5.nofp
              refine o_appendF (R := intR) (M := _) (gi := []) rfl rfl rfl rfl rfl (by decide) ho5 hsrc5 (by omega) (Fresh.nil _ _) (fun b hb => by simp at hb) (fun b hb => (ho5.lt hb).2) (fun b hb => by simp at hb) (by simp only [List.length_nil]; omega) (by simp only [List.length_nil]; omega) (by omega) ?_
              intro v6 w6 ho6 hb6 hg6
              rw [List.nil_append] at ho6
              replace hS := hS.grown hg6 (fun b hb => (ho5.lt hb).1)
              have hS6 := hS.size_le
              try replace hb7 := hb7.grown hg6 (fun e => by simp [Value.ownBlock] at e; omega)
              refine WL_end ⟨hS, ?_⟩
              refine WD_one 9 (by kernel_rfl) rfl ?_
              refine o_appendF (R := intR) (M := _) (gi := []) rfl rfl rfl rfl rfl (by decide) ho6 (Blk.src (xs := [gi (idsOf L) (k : Int)]) hb7 (Rows.ints _ _)) rfl (Fresh.nil _ _) (fun b hb => by simp at hb) (fun b hb => (ho6.lt hb).2) (fun b hb => by simp at hb) (by simp only [List.length_cons, List.length_nil]; omega) (by simp only [List.length_cons, List.length_nil]; omega) (by omega) ?_
              intro v8 w8 ho8 hb8 hg8
              replace hS := hS.grown hg8 (fun b hb => (ho6.lt hb).1)
              obtain ⟨f8, hs8, hf8⟩ := ho8.sl (by decide)
              refine WL_end ⟨hS, ?_⟩
              refine WD_one 10 (by kernel_rfl) rfl ?_
              refine o_call rfl rfl rfl (impl_RegretOf_ok (hLa.keep hS) hs8) ?_
              rintro _ w9 ⟨hk9, u9, f9, rfl, hs9, hf9⟩
              replace hS := hS.keep hk9
              refine WL_end ⟨hS, ?_⟩
              first|refine d_o 11 ?_|refine d_a 11 ?_|refine d_s 11 ?_|refine d_n 11 ?_|refine d_i 11 ?_|refine d_f 11 ?_|refine d_b 11 ?_|refine d_d 11 ?_|refine d_l1 11 ?_|refine d_l2 11 ?_|refine d_l3 11 ?_|refine d_l4 11 ?_|refine d_l5 11 ?_|refine d_l6 11 ?_|refine d_l7 11 ?_|refine d_l8 11 ?_|refine d_l9 11 ?_|refine d_g 11 ?_|refine d_q 11 ?_|refine d_e 11 ?_|refine d_j 11 ?_
              first|refine d_o 12 ?_|refine d_a 12 ?_|refine d_s 12 ?_|refine d_n 12 ?_|refine d_i 12 ?_|refine d_f 12 ?_|refine d_b 12 ?_|refine d_d 12 ?_|refine d_l1 12 ?_|refine d_l2 12 ?_|refine d_l3 12 ?_|refine d_l4 12 ?_|refine d_l5 12 ?_|refine d_l6 12 ?_|refine d_l7 12 ?_|refine d_l8 12 ?_|refine d_l9 12 ?_|refine d_g 12 ?_|refine d_q 12 ?_|refine d_e 12 ?_|refine d_j 12 ?_
              first|refine d_o 13 ?_|refine d_a 13 ?_|refine d_s 13 ?_|refine d_n 13 ?_|refine d_i 13 ?_|refine d_f 13 ?_|refine d_b 13 ?_|refine d_d 13 ?_|refine d_l1 13 ?_|refine d_l2 13 ?_|refine d_l3 13 ?_|refine d_l4 13 ?_|refine d_l5 13 ?_|refine d_l6 13 ?_|refine d_l7 13 ?_|refine d_l8 13 ?_|refine d_l9 13 ?_|refine d_g 13 ?_|refine d_q 13 ?_|refine d_e 13 ?_|refine d_j 13 ?_
              first|refine d_o 14 ?_|refine d_a 14 ?_|refine d_s 14 ?_|refine d_n 14 ?_|refine d_i 14 ?_|refine d_f 14 ?_|refine d_b 14 ?_|refine d_d 14 ?_|refine d_l1 14 ?_|refine d_l2 14 ?_|refine d_l3 14 ?_|refine d_l4 14 ?_|refine d_l5 14 ?_|refine d_l6 14 ?_|refine d_l7 14 ?_|refine d_l8 14 ?_|refine d_l9 14 ?_|refine d_g 14 ?_|refine d_q 14 ?_|refine d_e 14 ?_|refine d_j 14 ?_
              first|refine d_o 15 ?_|refine d_a 15 ?_|refine d_s 15 ?_|refine d_n 15 ?_|refine d_i 15 ?_|refine d_f 15 ?_|refine d_b 15 ?_|refine d_d 15 ?_|refine d_l1 15 ?_|refine d_l2 15 ?_|refine d_l3 15 ?_|refine d_l4 15 ?_|refine d_l5 15 ?_|refine d_l6 15 ?_|refine d_l7 15 ?_|refine d_l8 15 ?_|refine d_l9 15 ?_|refine d_g 15 ?_|refine d_q 15 ?_|refine d_e 15 ?_|refine d_j 15 ?_
              first|refine d_o 16 ?_|refine d_a 16 ?_|refine d_s 16 ?_|refine d_n 16 ?_|refine d_i 16 ?_|refine d_f 16 ?_|refine d_b 16 ?_|refine d_d 16 ?_|refine d_l1 16 ?_|refine d_l2 16 ?_|refine d_l3 16 ?_|refine d_l4 16 ?_|refine d_l5 16 ?_|refine d_l6 16 ?_|refine d_l7 16 ?_|refine d_l8 16 ?_|refine d_l9 16 ?_|refine d_g 16 ?_|refine d_q 16 ?_|refine d_e 16 ?_|refine d_j 16 ?_
              first|refine d_o 17 ?_|refine d_a 17 ?_|refine d_s 17 ?_|refine d_n 17 ?_|refine d_i 17 ?_|refine d_f 17 ?_|refine d_b 17 ?_|refine d_d 17 ?_|refine d_l1 17 ?_|refine d_l2 17 ?_|refine d_l3 17 ?_|refine d_l4 17 ?_|refine d_l5 17 ?_|refine d_l6 17 ?_|refine d_l7 17 ?_|refine d_l8 17 ?_|refine d_l9 17 ?_|refine d_g 17 ?_|refine d_q 17 ?_|refine d_e 17 ?_|refine d_j 17 ?_
              refine WD_done (by kernel_rfl) ?_
              repeat refine zz ?_
              refine WL_pure rfl rfl (o_mul rfl rfl (by omega)) ?_
              repeat refine zz ?_
              refine WL_pure rfl rfl (o_mul rfl rfl (by omega)) ?_
              repeat refine zz ?_
              try (refine W_cond rfl (fun hc => by exfalso; first | (simp at hc; done) | (simp at hc; omega) | omega) (fun _ => ?_))
              repeat refine zz ?_
              exact ⟨k + 1, ⟨rfl, rfl, rfl, rfl, rfl, rfl, rfl, trivial⟩, ⟨hka.keep hS, by omega⟩, by omega⟩
          · refine o_buildSlice rfl rfl rfl rfl rfl (by simp [Value.cells]) (by omega) ?_
            intro b7 w7 hal7
            replace hS := hS.keep hal7.kp
            have hb7e := hal7.b_eq
            have hz7 := hal7.size
            have hS7 := hS.size_le
            have hb7 := hal7.blk
            try replace ho5 := ho5.keep hal7.kp
            try replace ho6 := ho6.keep hal7.kp
            refine WL_end ⟨hS, ?_⟩
            refine WD_one 1 (by kernel_rfl) rfl ?_
            refine o_buildSlice rfl rfl rfl rfl rfl (by intro p hp; cases hp) (by omega) ?_
            intro b5 w5 hal5
            have ho5 : OwnF intR w5 wa.heap.size 3 (.slice (some ⟨b5, 0, none⟩) 0 0) [] [] := OwnF.made hal5.blk (by have := hal5.b_eq; omega)
            replace hS := hS.keep hal5.kp
            have hb5e := hal5.b_eq
            have hz5 := hal5.size
            have hS5 := hS.size_le
            try replace hb7 := hb7.keep hal5.kp
            refine WL_end ⟨hS, ?_⟩
            refine WD_one 3 (by kernel_rfl) rfl ?_
            obtain ⟨g5, hsrc5, _⟩ := (haa.keep hS).src
            obtain rfl := hsrc5.nofp
            refine o_appendF (R := intR) (M := _) (gi := []) rfl rfl rfl rfl rfl (by decide) ho5 hsrc5 (by omega) (Fresh.nil _ _) (fun b hb => by simp at hb) (fun b hb => (ho5.lt hb).2) (fun b hb => by simp at hb) (by simp only [List.length_nil]; omega) (by simp only [List.length_nil]; omega) (by omega) ?_
            intro v6 w6 ho6 hb6 hg6
            rw [List.nil_append] at ho6
            replace hS := hS.grown hg6 (fun b hb => (ho5.lt hb).1)
            have hS6 := hS.size_le
            try replace hb7 := hb7.grown hg6 (fun e => by simp [Value.ownBlock] at e; omega)
            refine WL_end ⟨hS, ?_⟩
            refine WD_one 9 (by kernel_rfl) rfl ?_
            refine o_appendF (R := intR) (M := _) (gi := []) rfl rfl rfl rfl rfl (by decide) ho6 (Blk.src (xs := [gi (idsOf L) (k : Int)]) hb7 (Rows.ints _ _)) rfl (Fresh.nil _ _) (fun b hb => by simp at hb) (fun b hb => (ho6.lt hb).2) (fun b hb => by simp at hb) (by simp only [List.length_cons, List.length_nil]; omega) (by simp only [List.length_cons, List.length_nil]; omega) (by omega) ?_
            intro v8 w8 ho8 hb8 hg8
            replace hS := hS.grown hg8 (fun b hb => (ho6.lt hb).1)
            obtain ⟨f8, hs8, hf8⟩ := ho8.sl (by decide)
            refine WL_end ⟨hS, ?_⟩
            refine WD_one 10 (by kernel_rfl) rfl ?_
            refine o_call rfl rfl rfl (impl_RegretOf_ok (hLa.keep hS) hs8) ?_
            rintro _ w9 ⟨hk9, u9, f9, rfl, hs9, hf9⟩
            replace hS := hS.keep hk9
            refine WL_end ⟨hS, ?_⟩
            first|refine d_o 11 ?_|refine d_a 11 ?_|refine d_s 11 ?_|refine d_n 11 ?_|refine d_i 11 ?_|refine d_f 11 ?_|refine d_b 11 ?_|refine d_d 11 ?_|refine d_l1 11 ?_|refine d_l2 11 ?_|refine d_l3 11 ?_|refine d_l4 11 ?_|refine d_l5 11 ?_|refine d_l6 11 ?_|refine d_l7 11 ?_|refine d_l8 11 ?_|refine d_l9 11 ?_|refine d_g 11 ?_|refine d_q 11 ?_|refine d_e 11 ?_|refine d_j 11 ?_
            first|refine d_o 12 ?_|refine d_a 12 ?_|refine d_s 12 ?_|refine d_n 12 ?_|refine d_i 12 ?_|refine d_f 12 ?_|refine d_b 12 ?_|refine d_d 12 ?_|refine d_l1 12 ?_|refine d_l2 12 ?_|refine d_l3 12 ?_|refine d_l4 12 ?_|refine d_l5 12 ?_|refine d_l6 12 ?_|refine d_l7 12 ?_|refine d_l8 12 ?_|refine d_l9 12 ?_|refine d_g 12 ?_|refine d_q 12 ?_|refine d_e 12 ?_|refine d_j 12 ?_
            first|refine d_o 13 ?_|refine d_a 13 ?_|refine d_s 13 ?_|refine d_n 13 ?_|refine d_i 13 ?_|refine d_f 13 ?_|refine d_b 13 ?_|refine d_d 13 ?_|refine d_l1 13 ?_|refine d_l2 13 ?_|refine d_l3 13 ?_|refine d_l4 13 ?_|refine d_l5 13 ?_|refine d_l6 13 ?_|refine d_l7 13 ?_|refine d_l8 13 ?_|refine d_l9 13 ?_|refine d_g 13 ?_|refine d_q 13 ?_|refine d_e 13 ?_|refine d_j 13 ?_
            first|refine d_o 14 ?_|refine d_a 14 ?_|refine d_s 14 ?_|refine d_n 14 ?_|refine d_i 14 ?_|refine d_f 14 ?_|refine d_b 14 ?_|refine d_d 14 ?_|refine d_l1 14 ?_|refine d_l2 14 ?_|refine d_l3 14 ?_|refine d_l4 14 ?_|refine d_l5 14 ?_|refine d_l6 14 ?_|refine d_l7 14 ?_|refine d_l8 14 ?_|refine d_l9 14 ?_|refine d_g 14 ?_|refine d_q 14 ?_|refine d_e 14 ?_|refine d_j 14 ?_
            first|refine d_o 15 ?_|refine d_a 15 ?_|refine d_s 15 ?_|refine d_n 15 ?_|refine d_i 15 ?_|refine d_f 15 ?_|refine d_b 15 ?_|refine d_d 15 ?_|refine d_l1 15 ?_|refine d_l2 15 ?_|refine d_l3 15 ?_|refine d_l4 15 ?_|refine d_l5 15 ?_|refine d_l6 15 ?_|refine d_l7 15 ?_|refine d_l8 15 ?_|refine d_l9 15 ?_|refine d_g 15 ?_|refine d_q 15 ?_|refine d_e 15 ?_|refine d_j 15 ?_
            first|refine d_o 16 ?_|refine d_a 16 ?_|refine d_s 16 ?_|refine d_n 16 ?_|refine d_i 16 ?_|refine d_f 16 ?_|refine d_b 16 ?_|refine d_d 16 ?_|refine d_l1 16 ?_|refine d_l2 16 ?_|refine d_l3 16 ?_|refine d_l4 16 ?_|refine d_l5 16 ?_|refine d_l6 16 ?_|refine d_l7 16 ?_|refine d_l8 16 ?_|refine d_l9 16 ?_|refine d_g 16 ?_|refine d_q 16 ?_|refine d_e 16 ?_|refine d_j 16 ?_
            first|refine d_o 17 ?_|refine d_a 17 ?_|refine d_s 17 ?_|refine d_n 17 ?_|refine d_i 17 ?_|refine d_f 17 ?_|refine d_b 17 ?_|refine d_d 17 ?_|refine d_l1 17 ?_|refine d_l2 17 ?_|refine d_l3 17 ?_|refine d_l4 17 ?_|refine d_l5 17 ?_|refine d_l6 17 ?_|refine d_l7 17 ?_|refine d_l8 17 ?_|refine d_l9 17 ?_|refine d_g 17 ?_|refine d_q 17 ?_|refine d_e 17 ?_|refine d_j 17 ?_
            refine WD_done (by kernel_rfl) ?_
            repeat refine zz ?_
            refine WL_pure rfl rfl (o_mul rfl rfl (by omega)) ?_
            repeat refine zz ?_
            refine WL_pure rfl rfl (o_mul rfl rfl (by omega)) ?_
            repeat refine zz ?_
            try (refine W_cond rfl (fun hc => by exfalso; first | (simp at hc; done) | (simp at hc; omega) | omega) (fun _ => ?_))
            repeat refine zz ?_
            exact ⟨k + 1, ⟨rfl, rfl, rfl, rfl, rfl, rfl, rfl, trivial⟩, ⟨hka.keep hS, by omega⟩, by omega⟩
        · repeat refine zz ?_
          exact ⟨⟨rfl, trivial⟩, hka⟩
      · repeat refine zz ?_
        exact ⟨⟨rfl, trivial⟩, hka⟩
    · repeat refine zz ?_
      exact ⟨⟨rfl, trivial⟩, hka⟩
  · refine W_loop (S := Nat) (fun k => [(0, vC), (3, vl), (4, .slice Aa na ca), (5, .int .i64 (regret L a).1), (6, .int .i64 (regret L a).2.1), (10, u3), (11, .slice AI nI cI), (12, .slice Aw2 63 cw2), (13, .int .i64 (k : Int))]) (fun k w' => Keep w7 w' ∧ k ≤ 63) (fun k => 63 - k) 0 ⟨rfl, rfl, rfl, rfl, rfl, rfl, rfl, rfl, rfl, trivial⟩ ⟨Keep.refl _, Nat.zero_le _⟩ ?_
    rintro k wa ⟨hka, hkn⟩
    replace hL := hL.keep hka
    replace ha := ha.keep hka
    replace hI := hI.keep hka
    replace hW := hW.keep hka
    replace h3 := h3.keep hka
    repeat refine zz ?_
    refine WL_part rfl rfl (fun hc => ?_) (fun hc => ?_)
    · have hkl : k < 63 := by simp at hc; omega
      repeat refine zz ?_
      refine o_call rfl rfl rfl (spec_AreItems_ok hL) ?_
      rintro _ wb ⟨rfl, kb⟩
      replace hka := hka.keep kb
      replace hL := hL.keep kb
      replace ha := ha.keep kb
      replace hI := hI.keep kb
      replace hW := hW.keep kb
      replace h3 := h3.keep kb
      repeat refine zz ?_
      refine WL_part rfl rfl (fun h1 => ?_) (fun h1 => ?_)
      · repeat refine zz ?_
        refine o_call rfl rfl rfl (subset_ok ha hI) ?_
        rintro _ _ ⟨rfl, rfl⟩
        repeat refine zz ?_
        refine W_cond rfl (fun h4 => ?_) (fun h4 => ?_)
        · have hkn2 := sub_known h4
          obtain ⟨hAw, ux, fx, hcx, hux, _⟩ := slR_get hW (i := (k : Int)) (by omega) (by omega)
          have hmax := regret_max h1 hkn2 (i := k) hkl
          have hworst := regret_worst h1 hkn2 (i := k) hkl
          have hb1 := bestUtil_bd L (idsOf L) (gi weightLists (k : Int))
          have hb2 := bestUtil_bd L a (gi weightLists (k : Int))
          have hm1 := mul_pos_bd (a := bestUtil L (idsOf L) (gi weightLists (k : Int)) - bestUtil L a (gi weightLists (k : Int))) (b := (regret L a).2.1) (by omega) (by omega)
          have hm2 := mul_pos_bd (a := (regret L a).1) (b := bestUtil L (idsOf L) (gi weightLists (k : Int))) (by omega) (by omega)
          repeat refine zz ?_
          refine o_call rfl rfl rfl (impl_BestUtility_ok hL hI hux) ?_
          rintro _ wd ⟨rfl, kd⟩
          replace hka := hka.keep kd
          replace hL := hL.keep kd
          replace ha := ha.keep kd
          replace hI := hI.keep kd
          replace hW := hW.keep kd
          replace h3 := h3.keep kd
          replace hcx := hcx.keep kd
          replace hux := hux.keep kd
          repeat refine zz ?_
          refine o_call rfl rfl rfl (impl_BestUtility_ok hL ha hux) ?_
          rintro _ we ⟨rfl, ke⟩
          replace hka := hka.keep ke
          replace hL := hL.keep ke
          replace ha := ha.keep ke
          replace hI := hI.keep ke
          replace hW := hW.keep ke
          replace h3 := h3.keep ke
          replace hcx := hcx.keep ke
          replace hux := hux.keep ke
          repeat refine zz ?_
          refine WL_pure rfl rfl (o_mul rfl rfl (by omega)) ?_
          repeat refine zz ?_
          refine WL_pure rfl rfl (o_mul rfl rfl (by omega)) ?_
          repeat refine zz ?_
          refine WL_part rfl rfl (fun hc => by exfalso; simp at hc; omega) (fun _ => ?_)
          repeat refine zz ?_
          refine o_call rfl rfl rfl (sameInts_ok hux h3) ?_
          rintro _ wf ⟨rfl, kf⟩
          replace hka := hka.keep kf
          repeat refine zz ?_
          refine WL_part rfl rfl (fun hsm => ?_) (fun hsm => ?_)
          · simp at hsm
            have hw := hworst hsm
            repeat refine zz ?_
            refine WL_pure rfl rfl (o_mul rfl rfl (by omega)) ?_
            repeat refine zz ?_
            refine WL_pure rfl rfl (o_mul rfl rfl (by omega)) ?_
            repeat refine zz ?_
            try (refine W_cond rfl (fun hc => by exfalso; first | (simp at hc; done) | (simp at hc; omega) | omega) (fun _ => ?_))
            repeat refine zz ?_
            exact ⟨k + 1, ⟨rfl, rfl, rfl, rfl, rfl, rfl, rfl, rfl, rfl, trivial⟩, ⟨hka, by omega⟩, by omega⟩
          · repeat refine zz ?_
            exact ⟨k + 1, ⟨rfl, rfl, rfl, rfl, rfl, rfl, rfl, rfl, rfl, trivial⟩, ⟨hka, by omega⟩, by omega⟩
        · repeat refine zz ?_
          exact ⟨⟨rfl, rfl, rfl, rfl, rfl, rfl, trivial⟩, hka⟩
      · repeat refine zz ?_
        exact ⟨⟨rfl, rfl, rfl, rfl, rfl, rfl, trivial⟩, hka⟩
    · repeat refine zz ?_
      exact ⟨⟨rfl, rfl, rfl, rfl, rfl, rfl, trivial⟩, hka⟩
end Go.E

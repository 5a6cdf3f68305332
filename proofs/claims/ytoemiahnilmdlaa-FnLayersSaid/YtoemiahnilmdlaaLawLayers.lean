/-
  'FnLayers' holds for every input: it returns true, and the input reads as it did. Conditions: none.
-/
import Derived.Test.YtoemiahnilmdlaaDq
import Derived.Test.YtoemiahnilmdlaaLw
import Derived.Test.YtoemiahnilmdlaaLs
import Derived.Test.YtoemiahnilmdlaaLp
import Derived.Test.YtoemiahnilmdlaaLb
import Derived.Test.YtoemiahnilmdlaaY1
import Derived.Test.YtoemiahnilmdlaaPr
set_option linter.unusedVariables false
set_option linter.unusedSimpArgs false
namespace Go.E
open Go Go.RowKit Go.Proofs
attribute [local irreducible] W WL WD WE thenE inE retQ PureOp Keep Cell Cells Blk Sl Rows Own Src Fresh
attribute [local irreducible] layersOf lyr chainTo prog pickIf skyAt

theorem sky_sub (L : List Itm) (e : List Nod) (k : Int) : subB (pickIf (fine L e) L (skyAt L e k)) (pickIf (fine L e) L (skyAt L e (k + 1))) = true := by
  refine allB_true fun i hi => ?_
  have hm : gi (pickIf (fine L e) L (skyAt L e k)) (i : Int) ∈ pickIf (fine L e) L (skyAt L e k) := by rw [gi_lt hi]; exact List.getElem_mem _
  generalize gi (pickIf (fine L e) L (skyAt L e k)) (i : Int) = y at hm
  rw [hasI_iff]
  unfold pickIf at hm ⊢
  split at hm
  · rename_i hp
    rw [if_pos hp]
    obtain ⟨j, hj, hv, rfl⟩ := pickN_mem hm
    refine mem_pickN hj ?_
    unfold skyAt at hv ⊢
    simp at hv ⊢; omega
  · cases hm

set_option maxHeartbeats 8000000 in
theorem law_Layers {w : World} {vC : Value} {C : List Int} {pC : List Nat} (hC : Sl u8R w vC C pC) :
    Run Try.prog 10 [vC] w (fun r w' => r = .bool true ∧ Keep w w') := by
  refine Run_intro Try.func10 (by unfold CallOk; kernel_rfl) rfl Try.ntmps10 (Nat.le_of_ble_eq_true rfl) ?_
  simp only [penv, Nat.reduceAdd, Nat.zero_add]
  repeat refine zz ?_
  refine o_call rfl rfl rfl (big_ok hC) ?_
  rintro _ _ ⟨rfl, rfl⟩
  repeat refine zz ?_
  refine W_cond rfl (fun hbig => ?_) (fun hbig => ?_)
  · repeat refine zz ?_
    exact ret1 rfl rfl ⟨rfl, Keep.refl _⟩
  simp at hbig
  repeat refine zz ?_
  refine o_call rfl rfl rfl (DrawLayerOf_ok hC (by omega)) ?_
  rintro _ w1 ⟨hk, vl, ve, L, e, fl, fe, id, rfl, hL, hlL, hsL, he, hle, hse⟩
  have hn : e.length + totN e ≤ 1048576 := by have := smallE_tot hse; omega
  replace hC := hC.keep hk
  repeat refine zz ?_
  refine o_call rfl rfl rfl (impl_LayersOf_ok hL he hn) ?_
  rintro vx w2 ⟨k2, fx, hX, _⟩
  replace hL := hL.keep k2
  replace he := he.keep k2
  replace hk := hk.keep k2
  replace hC := hC.keep k2
  repeat refine zz ?_
  refine o_call rfl rfl rfl (spec_LayersOf_ok hL he hn) ?_
  rintro vy w3 ⟨k3, fy, hY, _⟩
  replace hL := hL.keep k3
  replace he := he.keep k3
  replace hk := hk.keep k3
  replace hC := hC.keep k3
  replace hX := hX.keep k3
  obtain ⟨Ax, nx, cx, rfl, hnx⟩ := hX.split
  obtain ⟨Ay, ny, cy, rfl, hny⟩ := hY.split
  obtain rfl : nx = ny := by omega
  repeat refine zz ?_
  try (refine WL_part rfl rfl (fun hc => by exfalso; first | (simp at hc; done) | (simp at hc; omega) | omega) (fun _ => ?_))
  repeat refine zz ?_
  refine o_call rfl rfl rfl (impl_LayerOf_ok hL he id hn) ?_
  rintro _ w4 ⟨rfl, k4⟩
  replace hL := hL.keep k4
  replace he := he.keep k4
  replace hk := hk.keep k4
  replace hC := hC.keep k4
  replace hX := hX.keep k4
  replace hY := hY.keep k4
  repeat refine zz ?_
  refine o_call rfl rfl rfl (spec_LayerOf_ok hL he id hn) ?_
  rintro _ w5 ⟨rfl, k5⟩
  replace hL := hL.keep k5
  replace he := he.keep k5
  replace hk := hk.keep k5
  replace hC := hC.keep k5
  replace hX := hX.keep k5
  replace hY := hY.keep k5
  repeat refine zz ?_
  try (refine W_cond rfl (fun hc => by exfalso; first | (simp at hc; done) | (simp at hc; omega) | omega) (fun _ => ?_))
  repeat refine zz ?_
  have htot := layersOf_tot L e
  have hxl := hX.le
  have htk := totL_take_le (layersOf L e)
  refine W_loop (S := Nat) (fun i => [(0, vC), (3, vl), (4, ve), (6, .slice Ax nx cx), (7, .slice Ay nx cy), (8, .int .i64 (totL ((layersOf L e).take i) : Int)), (9, .int .i64 (i : Int))]) (fun i w' => Keep w5 w' ∧ i ≤ nx) (fun i => nx - i) 0 ⟨rfl, rfl, rfl, rfl, rfl, find_int rfl (by simp [totL]), rfl, trivial⟩ ⟨Keep.refl _, Nat.zero_le _⟩ ?_
  rintro i wa ⟨hka, hin⟩
  have hCa := hC.keep hka
  have hLa := hL.keep hka
  have hea := he.keep hka
  have hXa := hX.keep hka
  have hYa := hY.keep hka
  repeat refine zz ?_
  refine W_cond rfl (fun hci => ?_) (fun hci => ?_)
  · have hil : i < nx := by simp at hci; omega
    have hiX : i < (layersOf L e).length := by omega
    obtain ⟨hAx, ux, f1, hcx, hux, _⟩ := slR_get hXa (i := (i : Int)) (by omega) (by omega)
    obtain ⟨hAy, uy, f2, hcy, huy, _⟩ := slR_get hYa (i := (i : Int)) (by omega) (by omega)
    repeat refine zz ?_
    refine W_quiet (Keep wa) (by kernel_rfl) (by kernel_rfl) (Keep.drew _) ?_
    repeat refine qq ?_
    refine WQ_call rfl rfl rfl (fun w' hw' => (sameInts_same (hux.keep hw') (huy.keep hw')).kk hw') ?_
    repeat refine qq ?_
    intro wb hkb 
    have hkb' := hka.keep hkb
    repeat refine zz ?_
    replace hux := hux.keep hkb
    replace hcx := hcx.keep hkb
    replace hLa := hLa.keep hkb
    replace hea := hea.keep hkb
    replace hXa := hXa.keep hkb
    have htl := totL_take hiX
    have ht1 := htk i
    have ht2 := htk (i + 1)
    obtain ⟨Au, nu, cu, rfl, hnu⟩ := hux.split
    repeat refine zz ?_
    refine W_loop (S := Nat) (fun k => [(0, vC), (3, vl), (4, ve), (6, .slice Ax nx cx), (7, .slice Ay nx cy), (8, .int .i64 (totL ((layersOf L e).take (i + 1)) : Int)), (9, .int .i64 (i : Int)), (10, .int .i64 (k : Int))]) (fun k w' => Keep wb w' ∧ k ≤ nu) (fun k => nu - k) 0 ⟨rfl, rfl, rfl, rfl, rfl, find_int rfl (by omega), rfl, rfl, trivial⟩ ⟨Keep.refl _, Nat.zero_le _⟩ ?_
    have hul := hux.le
    rintro k wc ⟨hkc, hkn⟩
    have hLc := hLa.keep hkc
    have hec := hea.keep hkc
    have hXc := hXa.keep hkc
    replace hux := hux.keep hkc
    replace hcx := hcx.keep hkc
    repeat refine zz ?_
    refine W_cond rfl (fun hck => ?_) (fun hck => ?_)
    · have hkl : k < nu := by simp at hck; omega
      obtain ⟨hAu, hcu⟩ := hux.getI (i := (k : Int)) (by omega) (by omega)
      have hly := lay_mem (L := L) (e := e) (i := i) (k := k) hiX (by omega)
      generalize hy : gi (gi (layersOf L e) (i : Int)) (k : Int) = y at hcu hly
      obtain ⟨hchn, hcl, hlast⟩ := chain_ok hly
      have htop := hchn.top
      repeat refine zz ?_
      refine o_call rfl rfl rfl (impl_ChainTo_ok hLc hec y hn) ?_
      rintro vc wd ⟨kd, fc, hc, _⟩
      replace hLc := hLc.keep kd
      replace hec := hec.keep kd
      replace hXc := hXc.keep kd
      replace hux := hux.keep kd
      replace hcx := hcx.keep kd
      replace hcu := hcu.keep kd
      obtain ⟨Ac, nc, cc, rfl, hnc⟩ := hc.split
      obtain rfl : nc = i + 1 := by omega
      obtain ⟨hAc, hci1⟩ := hc.getI (i := (i : Int)) (by omega) (by omega)
      obtain ⟨_, hc0⟩ := hc.getI (i := 0) (by omega) (by omega)
      obtain ⟨_, u0, f0, hcx0, hu0, _⟩ := slR_get hXc (i := 0) (by omega) (by omega)
      rw [hlast] at hci1
      have hh0 : hasI (gi (layersOf L e) 0) (gi (chainTo L e y) 0) = true := by
        have := lay_at (L := L) (e := e) (k := 0) (by omega) (gi (chainTo L e y) 0)
        have h3 : lyr (layersOf L e) (gi (chainTo L e y) 0) = ((0 : Nat) : Int) := htop
        rw [h3] at this
        simpa using this
      repeat refine zz ?_
      refine W_quiet (Keep wd) (by kernel_rfl) (by kernel_rfl) (Keep.drew _) ?_
      repeat refine qq ?_
      refine WQ_call rfl rfl rfl (fun w' hw' => ((impl_LayerOf_ok (hLc.keep hw') (hec.keep hw') y hn).mono (fun r w' h => by rw [hly] at h; exact h)).kk hw') ?_
      repeat refine qq ?_
      refine WQ_part rfl rfl (fun hc => by exfalso; simp at hc) (fun _ => ?_)
      repeat refine qq ?_
      refine WQ_part rfl rfl (fun hc => by exfalso; simp at hc) (fun _ => ?_)
      repeat refine qq ?_
      refine WQ_part rfl rfl (fun hc => by exfalso; simp at hc) (fun _ => ?_)
      repeat refine qq ?_
      refine WQ_part rfl rfl (fun hne => ?_) (fun hne => ?_)
      · repeat refine qq ?_
        refine WQ_call rfl rfl rfl (fun w' hw' => ((has_ok (hu0.keep hw') (y := gi (chainTo L e y) 0)).mono (fun r w' h => by rw [hh0] at h; exact ⟨h.1, h.2 ▸ Keep.refl _⟩)).kk hw') ?_
        repeat refine qq ?_
        intro we hke 
        repeat refine zz ?_
        refine W_loop (S := Nat) (fun j => [(0, vC), (3, vl), (4, ve), (6, .slice Ax nx cx), (7, .slice Ay nx cy), (8, .int .i64 (totL ((layersOf L e).take (i + 1)) : Int)), (9, .int .i64 (i : Int)), (10, .int .i64 (k : Int)), (11, .slice Ac (i + 1) cc), (12, .int .i64 (j : Int))]) (fun j w' => Keep we w' ∧ 1 ≤ j ∧ j ≤ i + 1) (fun j => i + 1 - j) 1 ⟨rfl, rfl, rfl, rfl, rfl, rfl, rfl, rfl, rfl, rfl, trivial⟩ ⟨Keep.refl _, by omega, by omega⟩ ?_
        rintro j wf ⟨hkf, hj1, hjn⟩
        have hLf := (hLc.keep hke).keep hkf
        have hef := (hec.keep hke).keep hkf
        have hcf := (hc.keep hke).keep hkf
        repeat refine zz ?_
        refine W_cond rfl (fun hcj => ?_) (fun hcj => ?_)
        · have hjl : j < i + 1 := by simp at hcj; omega
          obtain ⟨m, rfl⟩ : ∃ m, j = m + 1 := ⟨j - 1, by omega⟩
          obtain ⟨_, hcj1⟩ := hcf.getI (i := ((m + 1 : Nat) : Int)) (by omega) (by omega)
          obtain ⟨_, hcj0⟩ := hcf.getI (i := ((m + 1 : Nat) : Int) - 1) (by omega) (by omega)
          have hv : gi (chainTo L e y) (((m + 1 : Nat) : Int) - 1) = gi (chainTo L e y) (m : Int) := by congr 1; omega
          rw [hv] at hcj0
          have hdm := hchn.dom m (by omega)
          repeat refine zz ?_
          refine W_draw (Keep wf) (by kernel_rfl) ?_
          have hS : Keep wf (World.drew wf) := Keep.drew wf
          first|refine d_o 0 ?_|refine d_a 0 ?_|refine d_s 0 ?_|refine d_n 0 ?_|refine d_i 0 ?_|refine d_f 0 ?_|refine d_b 0 ?_|refine d_d 0 ?_|refine d_l1 0 ?_|refine d_l2 0 ?_|refine d_l3 0 ?_|refine d_l4 0 ?_|refine d_l5 0 ?_|refine d_l6 0 ?_|refine d_l7 0 ?_|refine d_l8 0 ?_|refine d_l9 0 ?_|refine d_g 0 ?_|refine d_q 0 ?_|refine d_e 0 ?_|refine d_j 0 ?_
          first|refine d_o 1 ?_|refine d_a 1 ?_|refine d_s 1 ?_|refine d_n 1 ?_|refine d_i 1 ?_|refine d_f 1 ?_|refine d_b 1 ?_|refine d_d 1 ?_|refine d_l1 1 ?_|refine d_l2 1 ?_|refine d_l3 1 ?_|refine d_l4 1 ?_|refine d_l5 1 ?_|refine d_l6 1 ?_|refine d_l7 1 ?_|refine d_l8 1 ?_|refine d_l9 1 ?_|refine d_g 1 ?_|refine d_q 1 ?_|refine d_e 1 ?_|refine d_j 1 ?_
          first|refine d_o 2 ?_|refine d_a 2 ?_|refine d_s 2 ?_|refine d_n 2 ?_|refine d_i 2 ?_|refine d_f 2 ?_|refine d_b 2 ?_|refine d_d 2 ?_|refine d_l1 2 ?_|refine d_l2 2 ?_|refine d_l3 2 ?_|refine d_l4 2 ?_|refine d_l5 2 ?_|refine d_l6 2 ?_|refine d_l7 2 ?_|refine d_l8 2 ?_|refine d_l9 2 ?_|refine d_g 2 ?_|refine d_q 2 ?_|refine d_e 2 ?_|refine d_j 2 ?_
          first|refine d_o 3 ?_|refine d_a 3 ?_|refine d_s 3 ?_|refine d_n 3 ?_|refine d_i 3 ?_|refine d_f 3 ?_|refine d_b 3 ?_|refine d_d 3 ?_|refine d_l1 3 ?_|refine d_l2 3 ?_|refine d_l3 3 ?_|refine d_l4 3 ?_|refine d_l5 3 ?_|refine d_l6 3 ?_|refine d_l7 3 ?_|refine d_l8 3 ?_|refine d_l9 3 ?_|refine d_g 3 ?_|refine d_q 3 ?_|refine d_e 3 ?_|refine d_j 3 ?_
          first|refine d_o 4 ?_|refine d_a 4 ?_|refine d_s 4 ?_|refine d_n 4 ?_|refine d_i 4 ?_|refine d_f 4 ?_|refine d_b 4 ?_|refine d_d 4 ?_|refine d_l1 4 ?_|refine d_l2 4 ?_|refine d_l3 4 ?_|refine d_l4 4 ?_|refine d_l5 4 ?_|refine d_l6 4 ?_|refine d_l7 4 ?_|refine d_l8 4 ?_|refine d_l9 4 ?_|refine d_g 4 ?_|refine d_q 4 ?_|refine d_e 4 ?_|refine d_j 4 ?_
          first|refine d_o 5 ?_|refine d_a 5 ?_|refine d_s 5 ?_|refine d_n 5 ?_|refine d_i 5 ?_|refine d_f 5 ?_|refine d_b 5 ?_|refine d_d 5 ?_|refine d_l1 5 ?_|refine d_l2 5 ?_|refine d_l3 5 ?_|refine d_l4 5 ?_|refine d_l5 5 ?_|refine d_l6 5 ?_|refine d_l7 5 ?_|refine d_l8 5 ?_|refine d_l9 5 ?_|refine d_g 5 ?_|refine d_q 5 ?_|refine d_e 5 ?_|refine d_j 5 ?_
          first|refine d_o 7 ?_|refine d_a 7 ?_|refine d_s 7 ?_|refine d_n 7 ?_|refine d_i 7 ?_|refine d_f 7 ?_|refine d_b 7 ?_|refine d_d 7 ?_|refine d_l1 7 ?_|refine d_l2 7 ?_|refine d_l3 7 ?_|refine d_l4 7 ?_|refine d_l5 7 ?_|refine d_l6 7 ?_|refine d_l7 7 ?_|refine d_l8 7 ?_|refine d_l9 7 ?_|refine d_g 7 ?_|refine d_q 7 ?_|refine d_e 7 ?_|refine d_j 7 ?_
          first|refine d_o 8 ?_|refine d_a 8 ?_|refine d_s 8 ?_|refine d_n 8 ?_|refine d_i 8 ?_|refine d_f 8 ?_|refine d_b 8 ?_|refine d_d 8 ?_|refine d_l1 8 ?_|refine d_l2 8 ?_|refine d_l3 8 ?_|refine d_l4 8 ?_|refine d_l5 8 ?_|refine d_l6 8 ?_|refine d_l7 8 ?_|refine d_l8 8 ?_|refine d_l9 8 ?_|refine d_g 8 ?_|refine d_q 8 ?_|refine d_e 8 ?_|refine d_j 8 ?_
          first|refine d_o 9 ?_|refine d_a 9 ?_|refine d_s 9 ?_|refine d_n 9 ?_|refine d_i 9 ?_|refine d_f 9 ?_|refine d_b 9 ?_|refine d_d 9 ?_|refine d_l1 9 ?_|refine d_l2 9 ?_|refine d_l3 9 ?_|refine d_l4 9 ?_|refine d_l5 9 ?_|refine d_l6 9 ?_|refine d_l7 9 ?_|refine d_l8 9 ?_|refine d_l9 9 ?_|refine d_g 9 ?_|refine d_q 9 ?_|refine d_e 9 ?_|refine d_j 9 ?_
          first|refine d_o 10 ?_|refine d_a 10 ?_|refine d_s 10 ?_|refine d_n 10 ?_|refine d_i 10 ?_|refine d_f 10 ?_|refine d_b 10 ?_|refine d_d 10 ?_|refine d_l1 10 ?_|refine d_l2 10 ?_|refine d_l3 10 ?_|refine d_l4 10 ?_|refine d_l5 10 ?_|refine d_l6 10 ?_|refine d_l7 10 ?_|refine d_l8 10 ?_|refine d_l9 10 ?_|refine d_g 10 ?_|refine d_q 10 ?_|refine d_e 10 ?_|refine d_j 10 ?_
          first|refine d_o 11 ?_|refine d_a 11 ?_|refine d_s 11 ?_|refine d_n 11 ?_|refine d_i 11 ?_|refine d_f 11 ?_|refine d_b 11 ?_|refine d_d 11 ?_|refine d_l1 11 ?_|refine d_l2 11 ?_|refine d_l3 11 ?_|refine d_l4 11 ?_|refine d_l5 11 ?_|refine d_l6 11 ?_|refine d_l7 11 ?_|refine d_l8 11 ?_|refine d_l9 11 ?_|refine d_g 11 ?_|refine d_q 11 ?_|refine d_e 11 ?_|refine d_j 11 ?_
          refine WD_one 6 (by kernel_rfl) rfl ?_
          refine o_call rfl rfl rfl (spec_DominatorsOf_ok (hLf.keep hS) (hef.keep hS) (gi (chainTo L e y) ((m + 1 : Nat) : Int)) hn) ?_
          rintro vd wg ⟨kg, fd, hd, _⟩
          replace hS := hS.keep kg
          refine WL_end ⟨hS, ?_⟩
          refine WD_one 12 (by kernel_rfl) rfl ?_
          refine o_call rfl rfl rfl (has_ok hd) ?_
          rintro _ _ ⟨rfl, rfl⟩
          rw [hdm]
          refine WL_end ⟨hS, ?_⟩
          first|refine d_o 13 ?_|refine d_a 13 ?_|refine d_s 13 ?_|refine d_n 13 ?_|refine d_i 13 ?_|refine d_f 13 ?_|refine d_b 13 ?_|refine d_d 13 ?_|refine d_l1 13 ?_|refine d_l2 13 ?_|refine d_l3 13 ?_|refine d_l4 13 ?_|refine d_l5 13 ?_|refine d_l6 13 ?_|refine d_l7 13 ?_|refine d_l8 13 ?_|refine d_l9 13 ?_|refine d_g 13 ?_|refine d_q 13 ?_|refine d_e 13 ?_|refine d_j 13 ?_
          refine WD_done (by kernel_rfl) ?_
          repeat refine zz ?_
          exact ⟨m + 1 + 1, ⟨rfl, rfl, rfl, rfl, rfl, rfl, rfl, rfl, rfl, rfl, trivial⟩, ⟨hkf.keep hS, by omega, by omega⟩, by omega⟩
        simp at hcj
        repeat refine zz ?_
        exact ⟨k + 1, ⟨rfl, rfl, rfl, rfl, rfl, rfl, rfl, rfl, trivial⟩, ⟨((hkc.keep kd).keep hke).keep hkf, by omega⟩, by omega⟩
      · repeat refine qq ?_
        intro we hke 
        repeat refine zz ?_
        refine W_loop (S := Nat) (fun j => [(0, vC), (3, vl), (4, ve), (6, .slice Ax nx cx), (7, .slice Ay nx cy), (8, .int .i64 (totL ((layersOf L e).take (i + 1)) : Int)), (9, .int .i64 (i : Int)), (10, .int .i64 (k : Int)), (11, .slice Ac (i + 1) cc), (12, .int .i64 (j : Int))]) (fun j w' => Keep we w' ∧ 1 ≤ j ∧ j ≤ i + 1) (fun j => i + 1 - j) 1 ⟨rfl, rfl, rfl, rfl, rfl, rfl, rfl, rfl, rfl, rfl, trivial⟩ ⟨Keep.refl _, by omega, by omega⟩ ?_
        rintro j wf ⟨hkf, hj1, hjn⟩
        have hLf := (hLc.keep hke).keep hkf
        have hef := (hec.keep hke).keep hkf
        have hcf := (hc.keep hke).keep hkf
        repeat refine zz ?_
        refine W_cond rfl (fun hcj => ?_) (fun hcj => ?_)
        · have hjl : j < i + 1 := by simp at hcj; omega
          obtain ⟨m, rfl⟩ : ∃ m, j = m + 1 := ⟨j - 1, by omega⟩
          obtain ⟨_, hcj1⟩ := hcf.getI (i := ((m + 1 : Nat) : Int)) (by omega) (by omega)
          obtain ⟨_, hcj0⟩ := hcf.getI (i := ((m + 1 : Nat) : Int) - 1) (by omega) (by omega)
          have hv : gi (chainTo L e y) (((m + 1 : Nat) : Int) - 1) = gi (chainTo L e y) (m : Int) := by congr 1; omega
          rw [hv] at hcj0
          have hdm := hchn.dom m (by omega)
          repeat refine zz ?_
          refine W_draw (Keep wf) (by kernel_rfl) ?_
          have hS : Keep wf (World.drew wf) := Keep.drew wf
          first|refine d_o 0 ?_|refine d_a 0 ?_|refine d_s 0 ?_|refine d_n 0 ?_|refine d_i 0 ?_|refine d_f 0 ?_|refine d_b 0 ?_|refine d_d 0 ?_|refine d_l1 0 ?_|refine d_l2 0 ?_|refine d_l3 0 ?_|refine d_l4 0 ?_|refine d_l5 0 ?_|refine d_l6 0 ?_|refine d_l7 0 ?_|refine d_l8 0 ?_|refine d_l9 0 ?_|refine d_g 0 ?_|refine d_q 0 ?_|refine d_e 0 ?_|refine d_j 0 ?_
          first|refine d_o 1 ?_|refine d_a 1 ?_|refine d_s 1 ?_|refine d_n 1 ?_|refine d_i 1 ?_|refine d_f 1 ?_|refine d_b 1 ?_|refine d_d 1 ?_|refine d_l1 1 ?_|refine d_l2 1 ?_|refine d_l3 1 ?_|refine d_l4 1 ?_|refine d_l5 1 ?_|refine d_l6 1 ?_|refine d_l7 1 ?_|refine d_l8 1 ?_|refine d_l9 1 ?_|refine d_g 1 ?_|refine d_q 1 ?_|refine d_e 1 ?_|refine d_j 1 ?_
          first|refine d_o 2 ?_|refine d_a 2 ?_|refine d_s 2 ?_|refine d_n 2 ?_|refine d_i 2 ?_|refine d_f 2 ?_|refine d_b 2 ?_|refine d_d 2 ?_|refine d_l1 2 ?_|refine d_l2 2 ?_|refine d_l3 2 ?_|refine d_l4 2 ?_|refine d_l5 2 ?_|refine d_l6 2 ?_|refine d_l7 2 ?_|refine d_l8 2 ?_|refine d_l9 2 ?_|refine d_g 2 ?_|refine d_q 2 ?_|refine d_e 2 ?_|refine d_j 2 ?_
          first|refine d_o 3 ?_|refine d_a 3 ?_|refine d_s 3 ?_|refine d_n 3 ?_|refine d_i 3 ?_|refine d_f 3 ?_|refine d_b 3 ?_|refine d_d 3 ?_|refine d_l1 3 ?_|refine d_l2 3 ?_|refine d_l3 3 ?_|refine d_l4 3 ?_|refine d_l5 3 ?_|refine d_l6 3 ?_|refine d_l7 3 ?_|refine d_l8 3 ?_|refine d_l9 3 ?_|refine d_g 3 ?_|refine d_q 3 ?_|refine d_e 3 ?_|refine d_j 3 ?_
          first|refine d_o 4 ?_|refine d_a 4 ?_|refine d_s 4 ?_|refine d_n 4 ?_|refine d_i 4 ?_|refine d_f 4 ?_|refine d_b 4 ?_|refine d_d 4 ?_|refine d_l1 4 ?_|refine d_l2 4 ?_|refine d_l3 4 ?_|refine d_l4 4 ?_|refine d_l5 4 ?_|refine d_l6 4 ?_|refine d_l7 4 ?_|refine d_l8 4 ?_|refine d_l9 4 ?_|refine d_g 4 ?_|refine d_q 4 ?_|refine d_e 4 ?_|refine d_j 4 ?_
          first|refine d_o 5 ?_|refine d_a 5 ?_|refine d_s 5 ?_|refine d_n 5 ?_|refine d_i 5 ?_|refine d_f 5 ?_|refine d_b 5 ?_|refine d_d 5 ?_|refine d_l1 5 ?_|refine d_l2 5 ?_|refine d_l3 5 ?_|refine d_l4 5 ?_|refine d_l5 5 ?_|refine d_l6 5 ?_|refine d_l7 5 ?_|refine d_l8 5 ?_|refine d_l9 5 ?_|refine d_g 5 ?_|refine d_q 5 ?_|refine d_e 5 ?_|refine d_j 5 ?_
          first|refine d_o 7 ?_|refine d_a 7 ?_|refine d_s 7 ?_|refine d_n 7 ?_|refine d_i 7 ?_|refine d_f 7 ?_|refine d_b 7 ?_|refine d_d 7 ?_|refine d_l1 7 ?_|refine d_l2 7 ?_|refine d_l3 7 ?_|refine d_l4 7 ?_|refine d_l5 7 ?_|refine d_l6 7 ?_|refine d_l7 7 ?_|refine d_l8 7 ?_|refine d_l9 7 ?_|refine d_g 7 ?_|refine d_q 7 ?_|refine d_e 7 ?_|refine d_j 7 ?_
          first|refine d_o 8 ?_|refine d_a 8 ?_|refine d_s 8 ?_|refine d_n 8 ?_|refine d_i 8 ?_|refine d_f 8 ?_|refine d_b 8 ?_|refine d_d 8 ?_|refine d_l1 8 ?_|refine d_l2 8 ?_|refine d_l3 8 ?_|refine d_l4 8 ?_|refine d_l5 8 ?_|refine d_l6 8 ?_|refine d_l7 8 ?_|refine d_l8 8 ?_|refine d_l9 8 ?_|refine d_g 8 ?_|refine d_q 8 ?_|refine d_e 8 ?_|refine d_j 8 ?_
          first|refine d_o 9 ?_|refine d_a 9 ?_|refine d_s 9 ?_|refine d_n 9 ?_|refine d_i 9 ?_|refine d_f 9 ?_|refine d_b 9 ?_|refine d_d 9 ?_|refine d_l1 9 ?_|refine d_l2 9 ?_|refine d_l3 9 ?_|refine d_l4 9 ?_|refine d_l5 9 ?_|refine d_l6 9 ?_|refine d_l7 9 ?_|refine d_l8 9 ?_|refine d_l9 9 ?_|refine d_g 9 ?_|refine d_q 9 ?_|refine d_e 9 ?_|refine d_j 9 ?_
          first|refine d_o 10 ?_|refine d_a 10 ?_|refine d_s 10 ?_|refine d_n 10 ?_|refine d_i 10 ?_|refine d_f 10 ?_|refine d_b 10 ?_|refine d_d 10 ?_|refine d_l1 10 ?_|refine d_l2 10 ?_|refine d_l3 10 ?_|refine d_l4 10 ?_|refine d_l5 10 ?_|refine d_l6 10 ?_|refine d_l7 10 ?_|refine d_l8 10 ?_|refine d_l9 10 ?_|refine d_g 10 ?_|refine d_q 10 ?_|refine d_e 10 ?_|refine d_j 10 ?_
          first|refine d_o 11 ?_|refine d_a 11 ?_|refine d_s 11 ?_|refine d_n 11 ?_|refine d_i 11 ?_|refine d_f 11 ?_|refine d_b 11 ?_|refine d_d 11 ?_|refine d_l1 11 ?_|refine d_l2 11 ?_|refine d_l3 11 ?_|refine d_l4 11 ?_|refine d_l5 11 ?_|refine d_l6 11 ?_|refine d_l7 11 ?_|refine d_l8 11 ?_|refine d_l9 11 ?_|refine d_g 11 ?_|refine d_q 11 ?_|refine d_e 11 ?_|refine d_j 11 ?_
          refine WD_one 6 (by kernel_rfl) rfl ?_
          refine o_call rfl rfl rfl (spec_DominatorsOf_ok (hLf.keep hS) (hef.keep hS) (gi (chainTo L e y) ((m + 1 : Nat) : Int)) hn) ?_
          rintro vd wg ⟨kg, fd, hd, _⟩
          replace hS := hS.keep kg
          refine WL_end ⟨hS, ?_⟩
          refine WD_one 12 (by kernel_rfl) rfl ?_
          refine o_call rfl rfl rfl (has_ok hd) ?_
          rintro _ _ ⟨rfl, rfl⟩
          rw [hdm]
          refine WL_end ⟨hS, ?_⟩
          first|refine d_o 13 ?_|refine d_a 13 ?_|refine d_s 13 ?_|refine d_n 13 ?_|refine d_i 13 ?_|refine d_f 13 ?_|refine d_b 13 ?_|refine d_d 13 ?_|refine d_l1 13 ?_|refine d_l2 13 ?_|refine d_l3 13 ?_|refine d_l4 13 ?_|refine d_l5 13 ?_|refine d_l6 13 ?_|refine d_l7 13 ?_|refine d_l8 13 ?_|refine d_l9 13 ?_|refine d_g 13 ?_|refine d_q 13 ?_|refine d_e 13 ?_|refine d_j 13 ?_
          refine WD_done (by kernel_rfl) ?_
          repeat refine zz ?_
          exact ⟨m + 1 + 1, ⟨rfl, rfl, rfl, rfl, rfl, rfl, rfl, rfl, rfl, rfl, trivial⟩, ⟨hkf.keep hS, by omega, by omega⟩, by omega⟩
        simp at hcj
        repeat refine zz ?_
        exact ⟨k + 1, ⟨rfl, rfl, rfl, rfl, rfl, rfl, rfl, rfl, trivial⟩, ⟨((hkc.keep kd).keep hke).keep hkf, by omega⟩, by omega⟩
    · simp at hck
      obtain rfl : k = nu := by omega
      repeat refine zz ?_
      exact ⟨i + 1, ⟨rfl, rfl, rfl, rfl, rfl, rfl, rfl, trivial⟩, ⟨hkb'.keep hkc, by omega⟩, by omega⟩
  simp at hci
  obtain rfl : i = nx := by omega
  replace hk := hk.keep hka
  have h8 : (totL ((layersOf L e).take i) : Int) = (totL (layersOf L e) : Int) := by rw [hnx, List.take_length]
  rw [h8]
  repeat refine zz ?_
  refine o_call rfl rfl rfl (DrawSkybandOf_ok hCa (by omega)) ?_
  rintro _ w6 ⟨k6, va, vb, a, b, fa, fb, q, rfl, ha, hla, hsa, hb, hlb, hsb, hq0, hq1⟩
  have hnb : b.length + totN b ≤ 1048576 := by have := smallE_tot hsb; omega
  replace hk := hk.keep k6
  replace hCa := hCa.keep k6
  replace hLa := hLa.keep k6
  replace hea := hea.keep k6
  repeat refine zz ?_
  refine o_call rfl rfl rfl (impl_SkybandOf_ok ha hb q hnb) ?_
  rintro vs w7 ⟨k7, fs, hs, _⟩
  replace hk := hk.keep k7
  replace hCa := hCa.keep k7
  replace hLa := hLa.keep k7
  replace hea := hea.keep k7
  replace ha := ha.keep k7
  replace hb := hb.keep k7
  repeat refine zz ?_
  refine o_call rfl rfl rfl (DrawProgress_ok hCa (by omega)) ?_
  rintro vp w8 ⟨k8, p, fp, hp, hlp, hsp⟩
  replace hk := hk.keep k8
  replace hCa := hCa.keep k8
  replace hLa := hLa.keep k8
  replace hea := hea.keep k8
  replace ha := ha.keep k8
  replace hb := hb.keep k8
  replace hs := hs.keep k8
  repeat refine zz ?_
  refine o_call rfl rfl rfl (spec_AreItems_ok hLa) ?_
  rintro _ w9 ⟨rfl, k9⟩
  replace hk := hk.keep k9
  replace hLa := hLa.keep k9
  replace hea := hea.keep k9
  replace ha := ha.keep k9
  replace hb := hb.keep k9
  replace hs := hs.keep k9
  replace hp := hp.keep k9
  obtain ⟨Al, nl, cl, rfl, hnl⟩ := hLa.split
  repeat refine zz ?_
  refine WL_part rfl rfl (fun h1 => ?_) (fun h1 => ?_)
  · repeat refine zz ?_
    refine o_call rfl rfl rfl (spec_SkybandOf_ok ha hb q hnb) ?_
    rintro vt wA ⟨kA, ft, ht2, _⟩
    replace hk := hk.keep kA
    replace ha := ha.keep kA
    replace hb := hb.keep kA
    replace hs := hs.keep kA
    replace hp := hp.keep kA
    repeat refine zz ?_
    refine o_call rfl rfl rfl (sameInts_same hs ht2) ?_
    rintro _ wB ⟨rfl, kB⟩
    replace hk := hk.keep kB
    replace ha := ha.keep kB
    replace hb := hb.keep kB
    replace hs := hs.keep kB
    replace hp := hp.keep kB
    repeat refine zz ?_
    refine o_call rfl rfl rfl (impl_SkybandOf_ok ha hb (q + 1) hnb) ?_
    rintro vu wD ⟨kD, fu, hu, _⟩
    replace hk := hk.keep kD
    replace ha := ha.keep kD
    replace hb := hb.keep kD
    replace hs := hs.keep kD
    replace hp := hp.keep kD
    repeat refine zz ?_
    refine o_call rfl rfl rfl (subset_ok hs hu) ?_
    rintro _ _ ⟨rfl, rfl⟩
    rw [sky_sub]
    repeat refine zz ?_
    refine o_call rfl rfl rfl (impl_ProgressiveBest_ok hp hb hnb) ?_
    rintro vg wF ⟨kF, fg, hg, _⟩
    replace hk := hk.keep kF
    replace ha := ha.keep kF
    replace hb := hb.keep kF
    replace hs := hs.keep kF
    replace hp := hp.keep kF
    repeat refine zz ?_
    refine o_call rfl rfl rfl (spec_ProgressiveBest_ok hp hb hnb) ?_
    rintro vh wG ⟨kG, fh, hh, _⟩
    replace hk := hk.keep kG
    replace ha := ha.keep kG
    replace hb := hb.keep kG
    replace hs := hs.keep kG
    replace hp := hp.keep kG
    replace hg := hg.keep kG
    repeat refine zz ?_
    refine o_call rfl rfl rfl (sameInts_same hg hh) ?_
    rintro _ wH ⟨rfl, kH⟩
    repeat refine zz ?_
    exact ret1 rfl rfl ⟨rfl, hk.keep kH⟩
  simp at h1
  repeat refine zz ?_
  refine o_call rfl rfl rfl (spec_IsExpression_ok hea hn) ?_
  rintro _ w10 ⟨rfl, k10⟩
  replace hk := hk.keep k10
  replace hLa := hLa.keep k10
  replace hea := hea.keep k10
  replace ha := ha.keep k10
  replace hb := hb.keep k10
  replace hs := hs.keep k10
  replace hp := hp.keep k10
  repeat refine zz ?_
  refine WL_part rfl rfl (fun h2 => ?_) (fun h2 => ?_)
  · repeat refine zz ?_
    refine o_call rfl rfl rfl (spec_SkybandOf_ok ha hb q hnb) ?_
    rintro vt wA ⟨kA, ft, ht2, _⟩
    replace hk := hk.keep kA
    replace ha := ha.keep kA
    replace hb := hb.keep kA
    replace hs := hs.keep kA
    replace hp := hp.keep kA
    repeat refine zz ?_
    refine o_call rfl rfl rfl (sameInts_same hs ht2) ?_
    rintro _ wB ⟨rfl, kB⟩
    replace hk := hk.keep kB
    replace ha := ha.keep kB
    replace hb := hb.keep kB
    replace hs := hs.keep kB
    replace hp := hp.keep kB
    repeat refine zz ?_
    refine o_call rfl rfl rfl (impl_SkybandOf_ok ha hb (q + 1) hnb) ?_
    rintro vu wD ⟨kD, fu, hu, _⟩
    replace hk := hk.keep kD
    replace ha := ha.keep kD
    replace hb := hb.keep kD
    replace hs := hs.keep kD
    replace hp := hp.keep kD
    repeat refine zz ?_
    refine o_call rfl rfl rfl (subset_ok hs hu) ?_
    rintro _ _ ⟨rfl, rfl⟩
    rw [sky_sub]
    repeat refine zz ?_
    refine o_call rfl rfl rfl (impl_ProgressiveBest_ok hp hb hnb) ?_
    rintro vg wF ⟨kF, fg, hg, _⟩
    replace hk := hk.keep kF
    replace ha := ha.keep kF
    replace hb := hb.keep kF
    replace hs := hs.keep kF
    replace hp := hp.keep kF
    repeat refine zz ?_
    refine o_call rfl rfl rfl (spec_ProgressiveBest_ok hp hb hnb) ?_
    rintro vh wG ⟨kG, fh, hh, _⟩
    replace hk := hk.keep kG
    replace ha := ha.keep kG
    replace hb := hb.keep kG
    replace hs := hs.keep kG
    replace hp := hp.keep kG
    replace hg := hg.keep kG
    repeat refine zz ?_
    refine o_call rfl rfl rfl (sameInts_same hg hh) ?_
    rintro _ wH ⟨rfl, kH⟩
    repeat refine zz ?_
    exact ret1 rfl rfl ⟨rfl, hk.keep kH⟩
  simp at h2
  have hf : fine L e = true := by simp [fine, h1, h2]
  have hall : (totL (layersOf L e) : Int) = (nl : Int) := by rw [layers_all hf, hnl]
  rw [hall]
  repeat refine zz ?_
  refine WL_part rfl rfl (fun _ => ?_) (fun hc => by exfalso; simp at hc)
  repeat refine zz ?_
  refine o_call rfl rfl rfl (spec_SkybandOf_ok ha hb q hnb) ?_
  rintro vt wA ⟨kA, ft, ht2, _⟩
  replace hk := hk.keep kA
  replace ha := ha.keep kA
  replace hb := hb.keep kA
  replace hs := hs.keep kA
  replace hp := hp.keep kA
  repeat refine zz ?_
  refine o_call rfl rfl rfl (sameInts_same hs ht2) ?_
  rintro _ wB ⟨rfl, kB⟩
  replace hk := hk.keep kB
  replace ha := ha.keep kB
  replace hb := hb.keep kB
  replace hs := hs.keep kB
  replace hp := hp.keep kB
  repeat refine zz ?_
  refine o_call rfl rfl rfl (impl_SkybandOf_ok ha hb (q + 1) hnb) ?_
  rintro vu wD ⟨kD, fu, hu, _⟩
  replace hk := hk.keep kD
  replace ha := ha.keep kD
  replace hb := hb.keep kD
  replace hs := hs.keep kD
  replace hp := hp.keep kD
  repeat refine zz ?_
  refine o_call rfl rfl rfl (subset_ok hs hu) ?_
  rintro _ _ ⟨rfl, rfl⟩
  rw [sky_sub]
  repeat refine zz ?_
  refine o_call rfl rfl rfl (impl_ProgressiveBest_ok hp hb hnb) ?_
  rintro vg wF ⟨kF, fg, hg, _⟩
  replace hk := hk.keep kF
  replace ha := ha.keep kF
  replace hb := hb.keep kF
  replace hs := hs.keep kF
  replace hp := hp.keep kF
  repeat refine zz ?_
  refine o_call rfl rfl rfl (spec_ProgressiveBest_ok hp hb hnb) ?_
  rintro vh wG ⟨kG, fh, hh, _⟩
  replace hk := hk.keep kG
  replace ha := ha.keep kG
  replace hb := hb.keep kG
  replace hs := hs.keep kG
  replace hp := hp.keep kG
  replace hg := hg.keep kG
  repeat refine zz ?_
  refine o_call rfl rfl rfl (sameInts_same hg hh) ?_
  rintro _ wH ⟨rfl, kH⟩
  repeat refine zz ?_
  exact ret1 rfl rfl ⟨rfl, hk.keep kH⟩
end Go.E

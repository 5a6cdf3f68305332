/-
  Contracts: boxes of items, by the reference. Conditions: as stated.
-/
import Derived.Test.YtomkdoppjimhoaaT7
import Derived.Test.YtomkdoppjimhoaaOx
import Derived.Test.YtomkdoppjimhoaaM1
set_option linter.unusedVariables false
set_option linter.unusedSimpArgs false
namespace Go.E
open Go Go.RowKit Go.Proofs
/-- the least values, reckoned in the first k places -/
def partM (c v : List Int) (k : Nat) : List Int := (minL c v).take k ++ c.drop k
theorem partM_0 (c v : List Int) : partM c v 0 = c := by simp [partM]
theorem partM_end {c v : List Int} {k : Nat} (hl : c.length = v.length) (hk : c.length ≤ k) : partM c v k = minL c v := by
  rw [partM, List.drop_of_length_le hk, List.append_nil, List.take_of_length_le (by rw [minL_len hl]; exact hk)]
theorem partM_len {c v : List Int} (hl : c.length = v.length) (k : Nat) : (partM c v k).length = c.length := by
  rw [partM, List.length_append, List.length_take, List.length_drop, minL_len hl]; omega
theorem partM_at {c v : List Int} {k : Nat} (hl : c.length = v.length) (hk : k < c.length) : gi (partM c v k) (k : Int) = gi c (k : Int) := by
  rw [gi_lt (by rw [partM_len hl]; exact hk), gi_lt hk]
  have h1 : ((minL c v).take k).length = k := by rw [List.length_take, minL_len hl]; omega
  simp only [partM]
  rw [List.getElem_append_right (by omega)]
  simp [h1]
theorem partM_set {c v : List Int} {k : Nat} (hl : c.length = v.length) (hk : k < c.length) : (partM c v k).set k (min (gi c (k : Int)) (gi v (k : Int))) = partM c v (k + 1) := by
  have h1 : ((minL c v).take k).length = k := by rw [List.length_take, minL_len hl]; omega
  rw [partM, List.set_append_right _ _ (by omega), h1, Nat.sub_self, drop_gi hk, List.set_cons_zero, partM, take_gi (by rw [minL_len hl]; exact hk), minL_at hk (by omega), List.append_assoc]
  rfl
attribute [local irreducible] W WL WD WE thenE inE retQ PureOp Keep Cell Cells Blk Sl Rows Own Src Fresh
attribute [local irreducible] partM crn

set_option maxHeartbeats 2000000 in
theorem l9Corner_ok {w : World} {v : Value} {M : List Itm} {fm : List Nat} (hM : Sl itemR w v M fm) (h0 : 0 < M.length) (h16 : M.length ≤ 16) (hv3 : ∀ i : Nat, i < M.length → (gi M (i : Int)).vals.length = 3) :
    Run Try.prog 130 [v] w (fun r w' => Keep w w' ∧ ∃ fp, Sl intR w' r (crn M M.length) fp ∧ Fresh w.heap.size w' fp) := by
  obtain ⟨A, n, c, rfl, hnx⟩ := hM.split
  have hd := hM.dom
  refine Run_intro Try.func130 (by unfold CallOk; kernel_rfl) rfl Try.ntmps130 (Nat.le_of_ble_eq_true rfl) ?_
  simp only [penv, Nat.reduceAdd, Nat.zero_add]
  repeat refine zz ?_
  refine o_buildSlice rfl rfl rfl rfl rfl (by intro p hp; cases hp) (by omega) ?_
  intro bO wO halO
  have hkO := halO.kp
  have zO := halO.b_eq
  have sO := halO.size
  have ho1 : OwnF intR wO w.heap.size 3 (.slice (some ⟨bO, 0, none⟩) 0 0) [] [] := OwnF.made halO.blk (by omega)
  have hMO := hM.keep hkO
  obtain ⟨hA0, u0, f0, hcell0, hu0, _⟩ := item_get hMO (i := 0) (by omega) (by omega)
  have hl0 : (gi M 0).vals.length = 3 := hv3 0 h0
  obtain ⟨A0, n0, c0, rfl, hn0⟩ := hu0.split
  have hsrc := hu0.srcI
  have o0 := hu0.oneCell
  repeat refine zz ?_
  refine o_appendF (R := intR) (M := _) (gi := []) rfl rfl rfl rfl rfl (by decide) ho1 hsrc hn0 (Fresh.nil _ _) (fun b hb => by cases hb) (fun b hb => (ho1.lt hb).2) (fun b hb => by cases hb) (by simp only [List.length_nil]; omega) (by simp only [List.length_nil]; omega) (by omega) ?_
  intro vN wN hoN hbN hgN
  rw [List.nil_append, List.nil_append] at hoN
  have hkN : Keep w wN := hkO.grown hgN (fun b hb => (ho1.lt hb).1)
  rw [show (gi M 0).vals = crn M 1 from (crn_1 M).symm] at hoN
  obtain ⟨Ac, nc, cc, rfl, hnc, _⟩ := hoN.split
  rw [crn_len hv3 h0 1 (by omega)] at hnc
  clear ho1 hsrc hu0 hcell0 hMO
  repeat refine zz ?_
  refine W_loop (S := Nat) (fun i => [(0, .slice A n c), (3, .slice Ac nc cc), (4, .int .i64 (i : Int))]) (fun i w' => Keep w w' ∧ (1 ≤ i ∧ i ≤ n) ∧ OwnF intR w' w.heap.size 3 (.slice Ac nc cc) (crn M i) []) (fun i => n - i) 1 ⟨rfl, rfl, rfl, trivial⟩ ⟨hkN, ⟨Nat.le_refl _, by omega⟩, hoN⟩ ?_
  clear hkN hoN
  rintro i wa ⟨hka, ⟨hi1, hi⟩, hoa⟩
  repeat refine zz ?_
  refine W_cond rfl (fun hc => ?_) (fun hc => ?_)
  · simp at hc
    have hin : i < n := by omega
    have hlc := crn_len hv3 h0 i (by omega)
    have hlv := hv3 i (by omega)
    repeat refine zz ?_
    refine W_loop (S := Nat) (fun k => [(0, .slice A n c), (3, .slice Ac nc cc), (4, .int .i64 (i : Int)), (5, .int .i64 (k : Int))]) (fun k w' => Keep w w' ∧ k ≤ 3 ∧ OwnF intR w' w.heap.size 3 (.slice Ac nc cc) (partM (crn M i) (gi M (i : Int)).vals k) []) (fun k => 3 - k) 0 ⟨rfl, rfl, rfl, rfl, trivial⟩ ⟨hka, Nat.zero_le _, by rw [partM_0]; exact hoa⟩ ?_
    clear hka hoa
    rintro k wb ⟨hkb, hk, hob⟩
    have hMb := hM.keep hkb
    have hpl := partM_len (c := crn M i) (v := (gi M (i : Int)).vals) (by omega) k
    have hzb := hkb.size_le
    repeat refine zz ?_
    refine W_cond rfl (fun hc2 => ?_) (fun hc2 => ?_)
    · simp at hc2
      have hk3 : k < 3 := by omega
      obtain ⟨hA, u1, f1, hcell1, hu1, hsub1⟩ := item_get hMb (i := (i : Int)) (by omega) (by omega)
      obtain ⟨A1, n1, c1, rfl, hn1⟩ := hu1.split
      obtain ⟨hA1, hc11⟩ := hu1.getI (i := (k : Int)) (by omega) (by omega)
      obtain ⟨fo, hso, _⟩ := hob.sl (by decide)
      obtain ⟨hAc, hcc⟩ := hso.getI (i := (k : Int)) (by omega) (by omega)
      rw [partM_at (by omega) (by omega)] at hcc
      repeat refine zz ?_
      have hS : Keep wb (World.drew wb) := Keep.drew wb
      refine W_late (Keep wb) [16] (by kernel_rfl) (Keep.drew wb) ?_
      first|refine e_o 0 ?_|refine e_a 0 ?_|refine e_s 0 ?_|refine e_n 0 ?_|refine e_i 0 ?_|refine e_f 0 ?_|refine e_b 0 ?_|refine e_d 0 ?_|refine e_l1 0 ?_|refine e_l2 0 ?_|refine e_l3 0 ?_|refine e_l4 0 ?_|refine e_l5 0 ?_|refine e_l6 0 ?_|refine e_l7 0 ?_|refine e_l8 0 ?_|refine e_l9 0 ?_|refine e_g 0 ?_|refine e_q 0 ?_|refine e_e 0 ?_|refine e_j 0 ?_
      first|refine e_o 1 ?_|refine e_a 1 ?_|refine e_s 1 ?_|refine e_n 1 ?_|refine e_i 1 ?_|refine e_f 1 ?_|refine e_b 1 ?_|refine e_d 1 ?_|refine e_l1 1 ?_|refine e_l2 1 ?_|refine e_l3 1 ?_|refine e_l4 1 ?_|refine e_l5 1 ?_|refine e_l6 1 ?_|refine e_l7 1 ?_|refine e_l8 1 ?_|refine e_l9 1 ?_|refine e_g 1 ?_|refine e_q 1 ?_|refine e_e 1 ?_|refine e_j 1 ?_
      first|refine e_o 2 ?_|refine e_a 2 ?_|refine e_s 2 ?_|refine e_n 2 ?_|refine e_i 2 ?_|refine e_f 2 ?_|refine e_b 2 ?_|refine e_d 2 ?_|refine e_l1 2 ?_|refine e_l2 2 ?_|refine e_l3 2 ?_|refine e_l4 2 ?_|refine e_l5 2 ?_|refine e_l6 2 ?_|refine e_l7 2 ?_|refine e_l8 2 ?_|refine e_l9 2 ?_|refine e_g 2 ?_|refine e_q 2 ?_|refine e_e 2 ?_|refine e_j 2 ?_
      first|refine e_o 3 ?_|refine e_a 3 ?_|refine e_s 3 ?_|refine e_n 3 ?_|refine e_i 3 ?_|refine e_f 3 ?_|refine e_b 3 ?_|refine e_d 3 ?_|refine e_l1 3 ?_|refine e_l2 3 ?_|refine e_l3 3 ?_|refine e_l4 3 ?_|refine e_l5 3 ?_|refine e_l6 3 ?_|refine e_l7 3 ?_|refine e_l8 3 ?_|refine e_l9 3 ?_|refine e_g 3 ?_|refine e_q 3 ?_|refine e_e 3 ?_|refine e_j 3 ?_
      first|refine e_o 4 ?_|refine e_a 4 ?_|refine e_s 4 ?_|refine e_n 4 ?_|refine e_i 4 ?_|refine e_f 4 ?_|refine e_b 4 ?_|refine e_d 4 ?_|refine e_l1 4 ?_|refine e_l2 4 ?_|refine e_l3 4 ?_|refine e_l4 4 ?_|refine e_l5 4 ?_|refine e_l6 4 ?_|refine e_l7 4 ?_|refine e_l8 4 ?_|refine e_l9 4 ?_|refine e_g 4 ?_|refine e_q 4 ?_|refine e_e 4 ?_|refine e_j 4 ?_
      first|refine e_o 5 ?_|refine e_a 5 ?_|refine e_s 5 ?_|refine e_n 5 ?_|refine e_i 5 ?_|refine e_f 5 ?_|refine e_b 5 ?_|refine e_d 5 ?_|refine e_l1 5 ?_|refine e_l2 5 ?_|refine e_l3 5 ?_|refine e_l4 5 ?_|refine e_l5 5 ?_|refine e_l6 5 ?_|refine e_l7 5 ?_|refine e_l8 5 ?_|refine e_l9 5 ?_|refine e_g 5 ?_|refine e_q 5 ?_|refine e_e 5 ?_|refine e_j 5 ?_
      first|refine e_o 6 ?_|refine e_a 6 ?_|refine e_s 6 ?_|refine e_n 6 ?_|refine e_i 6 ?_|refine e_f 6 ?_|refine e_b 6 ?_|refine e_d 6 ?_|refine e_l1 6 ?_|refine e_l2 6 ?_|refine e_l3 6 ?_|refine e_l4 6 ?_|refine e_l5 6 ?_|refine e_l6 6 ?_|refine e_l7 6 ?_|refine e_l8 6 ?_|refine e_l9 6 ?_|refine e_g 6 ?_|refine e_q 6 ?_|refine e_e 6 ?_|refine e_j 6 ?_
      first|refine e_o 7 ?_|refine e_a 7 ?_|refine e_s 7 ?_|refine e_n 7 ?_|refine e_i 7 ?_|refine e_f 7 ?_|refine e_b 7 ?_|refine e_d 7 ?_|refine e_l1 7 ?_|refine e_l2 7 ?_|refine e_l3 7 ?_|refine e_l4 7 ?_|refine e_l5 7 ?_|refine e_l6 7 ?_|refine e_l7 7 ?_|refine e_l8 7 ?_|refine e_l9 7 ?_|refine e_g 7 ?_|refine e_q 7 ?_|refine e_e 7 ?_|refine e_j 7 ?_
      first|refine e_o 8 ?_|refine e_a 8 ?_|refine e_s 8 ?_|refine e_n 8 ?_|refine e_i 8 ?_|refine e_f 8 ?_|refine e_b 8 ?_|refine e_d 8 ?_|refine e_l1 8 ?_|refine e_l2 8 ?_|refine e_l3 8 ?_|refine e_l4 8 ?_|refine e_l5 8 ?_|refine e_l6 8 ?_|refine e_l7 8 ?_|refine e_l8 8 ?_|refine e_l9 8 ?_|refine e_g 8 ?_|refine e_q 8 ?_|refine e_e 8 ?_|refine e_j 8 ?_
      first|refine e_o 9 ?_|refine e_a 9 ?_|refine e_s 9 ?_|refine e_n 9 ?_|refine e_i 9 ?_|refine e_f 9 ?_|refine e_b 9 ?_|refine e_d 9 ?_|refine e_l1 9 ?_|refine e_l2 9 ?_|refine e_l3 9 ?_|refine e_l4 9 ?_|refine e_l5 9 ?_|refine e_l6 9 ?_|refine e_l7 9 ?_|refine e_l8 9 ?_|refine e_l9 9 ?_|refine e_g 9 ?_|refine e_q 9 ?_|refine e_e 9 ?_|refine e_j 9 ?_
      first|refine e_o 10 ?_|refine e_a 10 ?_|refine e_s 10 ?_|refine e_n 10 ?_|refine e_i 10 ?_|refine e_f 10 ?_|refine e_b 10 ?_|refine e_d 10 ?_|refine e_l1 10 ?_|refine e_l2 10 ?_|refine e_l3 10 ?_|refine e_l4 10 ?_|refine e_l5 10 ?_|refine e_l6 10 ?_|refine e_l7 10 ?_|refine e_l8 10 ?_|refine e_l9 10 ?_|refine e_g 10 ?_|refine e_q 10 ?_|refine e_e 10 ?_|refine e_j 10 ?_
      first|refine e_o 11 ?_|refine e_a 11 ?_|refine e_s 11 ?_|refine e_n 11 ?_|refine e_i 11 ?_|refine e_f 11 ?_|refine e_b 11 ?_|refine e_d 11 ?_|refine e_l1 11 ?_|refine e_l2 11 ?_|refine e_l3 11 ?_|refine e_l4 11 ?_|refine e_l5 11 ?_|refine e_l6 11 ?_|refine e_l7 11 ?_|refine e_l8 11 ?_|refine e_l9 11 ?_|refine e_g 11 ?_|refine e_q 11 ?_|refine e_e 11 ?_|refine e_j 11 ?_
      first|refine e_o 12 ?_|refine e_a 12 ?_|refine e_s 12 ?_|refine e_n 12 ?_|refine e_i 12 ?_|refine e_f 12 ?_|refine e_b 12 ?_|refine e_d 12 ?_|refine e_l1 12 ?_|refine e_l2 12 ?_|refine e_l3 12 ?_|refine e_l4 12 ?_|refine e_l5 12 ?_|refine e_l6 12 ?_|refine e_l7 12 ?_|refine e_l8 12 ?_|refine e_l9 12 ?_|refine e_g 12 ?_|refine e_q 12 ?_|refine e_e 12 ?_|refine e_j 12 ?_
      first|refine e_o 13 ?_|refine e_a 13 ?_|refine e_s 13 ?_|refine e_n 13 ?_|refine e_i 13 ?_|refine e_f 13 ?_|refine e_b 13 ?_|refine e_d 13 ?_|refine e_l1 13 ?_|refine e_l2 13 ?_|refine e_l3 13 ?_|refine e_l4 13 ?_|refine e_l5 13 ?_|refine e_l6 13 ?_|refine e_l7 13 ?_|refine e_l8 13 ?_|refine e_l9 13 ?_|refine e_g 13 ?_|refine e_q 13 ?_|refine e_e 13 ?_|refine e_j 13 ?_
      refine WE_takeP 14 rfl (by kernel_rfl) (by kernel_rfl) (by kernel_rfl) (by kernel_rfl) (by repeat (first | exact np_ret | refine np_then ?_ | refine np_in ?_)) rfl rfl (fun w' => o_min rfl rfl) ?_
      first|refine e_o 15 ?_|refine e_a 15 ?_|refine e_s 15 ?_|refine e_n 15 ?_|refine e_i 15 ?_|refine e_f 15 ?_|refine e_b 15 ?_|refine e_d 15 ?_|refine e_l1 15 ?_|refine e_l2 15 ?_|refine e_l3 15 ?_|refine e_l4 15 ?_|refine e_l5 15 ?_|refine e_l6 15 ?_|refine e_l7 15 ?_|refine e_l8 15 ?_|refine e_l9 15 ?_|refine e_g 15 ?_|refine e_q 15 ?_|refine e_e 15 ?_|refine e_j 15 ?_
      refine WE_last 16 (by kernel_rfl) rfl (by kernel_rfl) ?_
      replace hkb := hkb.keep hS
      replace hob := hob.keep hS
      obtain ⟨bo, cap, cells, hv, hbo, hblk, hl1, hl2, hget, hput⟩ := hob.stI (by intro e; rw [e] at hpl; simp at hpl; omega)
      simp only [Value.slice.injEq] at hv
      obtain ⟨rfl, _, rfl⟩ := hv
      refine o_store1 (b := bo) (off := k) rfl rfl (by rw [ea_blk, Nat.zero_add, Nat.mul_one]) rfl rfl hblk (by omega) ?_
      intro we hue
      have hoe := hput we k _ (by omega) hue
      rw [partM_set (by omega) (by omega)] at hoe
      refine WL_end ?_
      refine WE_done (by kernel_rfl) ?_
      repeat refine zz ?_
      exact ⟨k + 1, ⟨rfl, rfl, rfl, rfl, trivial⟩, ⟨hkb.upd hue hbo, by omega, hoe⟩, by omega⟩
    · simp at hc2
      have hk3 : k = 3 := by omega
      rw [hk3, partM_end (by omega) (by omega)] at hob
      repeat refine zz ?_
      exact ⟨i + 1, ⟨rfl, rfl, rfl, trivial⟩, ⟨hkb, ⟨by omega, by omega⟩, by rw [crn_succ]; exact hob⟩, by omega⟩
  · simp at hc
    have hin : i = M.length := by omega
    rw [hin] at hoa
    obtain ⟨fo, hso, hfo⟩ := hoa.sl (by decide)
    repeat refine zz ?_
    exact ret1 rfl rfl ⟨hka, fo, hso, hfo⟩
end Go.E

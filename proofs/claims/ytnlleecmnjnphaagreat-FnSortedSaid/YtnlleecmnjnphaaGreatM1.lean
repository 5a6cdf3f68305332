/-
  Contract: sorting numbers by insertion. Conditions: as stated.
-/
import Derived.Test.YtnlleecmnjnphaaGreatSo
import Derived.Test.YtnlleecmnjnphaaGreatL9
set_option linter.unusedVariables false
set_option linter.unusedSimpArgs false
namespace Go.E
open Go Go.RowKit Go.Proofs
attribute [local irreducible] W WL WD WE thenE inE retQ PureOp Keep Cell Cells Blk Sl Rows Own Src Fresh

set_option maxHeartbeats 1000000 in
theorem l8Sort_ok {w : World} {v : Value} {L : List Int} {fp : List Nat} (hx : Sl intR w v L fp) (hn : L.length ≤ 4194304) :
    Run Tryz.prog 40 [v] w (fun r w' => Keep w w' ∧ ∃ fp, Sl intR w' r (sortP id L) fp ∧ Fresh w.heap.size w' fp) := by
  obtain ⟨A, n, c, rfl, hnx⟩ := hx.split
  refine Run_intro Tryz.func40 (by unfold CallOk; kernel_rfl) rfl Tryz.ntmps40 (Nat.le_of_ble_eq_true rfl) ?_
  simp only [penv, Nat.reduceAdd, Nat.zero_add]
  repeat refine zz ?_
  refine o_buildSlice rfl rfl rfl rfl rfl (by intro p hp; cases hp) (by omega) ?_
  intro b0 w1 hal
  have hk1 := hal.kp
  have ho1 : OwnF intR w1 w.heap.size 3 (.slice (some ⟨b0, 0, none⟩) 0 0) [] [] := OwnF.made hal.blk (by have := hal.b_eq; omega)
  repeat refine zz ?_
  refine W_loop (S := Nat × Value) (fun s => [(0, .slice A n c), (3, s.2), (4, .int .i64 (s.1 : Int))]) (fun s w' => Keep w w' ∧ s.1 ≤ n ∧ OwnF intR w' w.heap.size 3 s.2 (sortN id L s.1) []) (fun s => n - s.1) (0, _) ⟨rfl, rfl, rfl, trivial⟩ ⟨hk1, by omega, by simpa [sortN] using ho1⟩ ?_
  rintro ⟨i, va⟩ wa ⟨hka, hi, hoa⟩
  dsimp only at hi hoa ⊢
  obtain ⟨Ao, no, co, rfl, hno, hnc⟩ := hoa.split
  rw [sortN_len] at hno
  obtain rfl : i = no := hno.symm
  repeat refine zz ?_
  refine W_cond rfl (fun hc => ?_) (fun hc => ?_)
  · have hin : i < n := by simp at hc; omega
    generalize hS : sortN id L i = S at hoa
    have hSl : S.length = i := by rw [← hS, sortN_len]
    repeat refine zz ?_
    refine W_loop (S := Nat) (fun k => [(0, .slice A n c), (3, .slice Ao i co), (4, .int .i64 (i : Int)), (5, .int .i64 (k : Int))]) (fun k w' => Keep wa w' ∧ k ≤ i ∧ posP id S (gi L (i : Int)) i = posP id S (gi L (i : Int)) k) (fun k => k) i ⟨rfl, rfl, rfl, rfl, trivial⟩ ⟨Keep.refl _, Nat.le_refl _, rfl⟩ ?_
    rintro k wb ⟨hkb, hki, hpos⟩
    have hkc := hka.keep hkb
    have hxb := hx.keep hkc
    have hob := hoa.keep hkb
    obtain ⟨fo, hso, hfo⟩ := hob.sl (by decide)
    repeat refine zz ?_
    refine W_quiet (Keep wb) (by kernel_rfl) (by kernel_rfl) (Keep.drew _) ?_
    repeat refine qq ?_
    refine WQ_part rfl rfl (fun h => ?_) (fun h => ?_)
    · simp at h
      obtain ⟨hAo, hck⟩ := hso.getI (i := (k : Int) - 1) (by omega) (by omega)
      obtain ⟨hA, hci⟩ := hxb.getI (i := (i : Int)) (by omega) (by omega)
      repeat refine qq ?_
      intro wd hkd 
      have hpk : posP id S (gi L (i : Int)) k = if gi L (i : Int) < gi S ((k : Int) - 1) then posP id S (gi L (i : Int)) (k - 1) else k := by
        obtain ⟨m, rfl⟩ : ∃ m, k = m + 1 := ⟨k - 1, by omega⟩
        simp only [posP, Nat.add_sub_cancel, id]
        rw [show ((m + 1 : Nat) : Int) - 1 = (m : Int) by omega]
      repeat refine zz ?_
      refine W_cond rfl (fun hd => ?_) (fun hd => ?_)
      · simp at hd
        repeat refine zz ?_
        rw [if_pos hd] at hpk
        exact ⟨k - 1, ⟨rfl, rfl, rfl, find_int rfl (by omega), trivial⟩, ⟨hkb.keep hkd, by omega, by rw [hpos, hpk]⟩, by omega⟩
      · simp at hd
        repeat refine zz ?_
        rw [if_neg (by omega)] at hpk
        rw [hpk] at hpos
        have hkd2 := hkc.keep hkd
        have hod := hob.keep hkd
        have hsd := hso.keep hkd
        refine o_buildSlice rfl rfl rfl rfl rfl (by intro p hp; cases hp) (by omega) ?_
        intro b2 w2 hal2
        have hk2 := hal2.kp
        have ho2 : OwnF intR w2 wd.heap.size 3 (.slice (some ⟨b2, 0, none⟩) 0 0) [] [] := OwnF.made hal2.blk (by have := hal2.b_eq; omega)
        have hz2 := hk2.size_le
        repeat refine zz ?_
        refine WL_pure rfl rfl (o_slice_hi (h := k) rfl rfl (by omega)) ?_
        repeat refine zz ?_
        refine o_appendF (R := intR) (M := _) (gi := []) rfl rfl rfl rfl rfl (by decide) ho2 ((hsd.keep hk2).srcI.takeI k) (by rw [List.length_take]; omega) (Fresh.nil _ _) (fun b hb => by simp at hb) (fun b hb => (ho2.lt hb).2) (fun b hb => by simp at hb) (by rw [List.length_take]; simp only [List.length_nil]; omega) (by rw [List.length_take]; simp only [List.length_nil]; omega) (by omega) ?_
        intro v3 w3 ho3 hb3 hg3
        have hk3 : Keep wd w3 := hk2.grown hg3 (fun b hb => (ho2.lt hb).1)
        obtain ⟨hAi, hci3⟩ := (((hx.keep hkc).keep hkd).keep hk3).getI (i := (i : Int)) (by omega) (by omega)
        repeat refine zz ?_
        refine o_buildSlice rfl rfl rfl rfl rfl (by simp [Value.cells]) (by omega) ?_
        intro b4 w4 hal4
        have hk4 := hk3.keep hal4.kp
        have ho4 := ho3.keep hal4.kp
        have hz4 := hk4.size_le
        repeat refine zz ?_
        refine o_appendF (R := intR) (M := _) (gi := []) rfl rfl rfl rfl rfl (by decide) ho4 (Blk.src (xs := [gi L (i : Int)]) hal4.blk (Rows.ints _ _)) rfl (Fresh.nil _ _) (fun b hb => by simp at hb) (fun b hb => (ho4.lt hb).2) (fun b hb => by simp at hb) (by simp only [List.nil_append, List.length_take, List.length_cons, List.length_nil]; omega) (by simp only [List.nil_append, List.length_take, List.length_cons, List.length_nil]; omega) (by omega) ?_
        intro v5 w5 ho5 hb5 hg5
        have hk5 : Keep wd w5 := hk4.grown hg5 (fun b hb => (ho4.lt hb).1)
        have hz5 := hk5.size_le
        repeat refine zz ?_
        refine WL_pure rfl rfl (o_slice_lo (l := k) rfl rfl (by omega)) ?_
        repeat refine zz ?_
        refine o_appendF (R := intR) (M := _) (gi := []) rfl rfl rfl rfl rfl (by decide) ho5 ((hsd.keep hk5).srcI.dropI (k := k) (c := co) (by omega) (by omega)) (by rw [List.length_drop]; omega) (Fresh.nil _ _) (fun b hb => by simp at hb) (fun b hb => (ho5.lt hb).2) (fun b hb => by simp at hb) (by simp only [List.length_append, List.nil_append, List.length_take, List.length_drop, List.length_cons, List.length_nil]; omega) (by simp only [List.length_append, List.nil_append, List.length_take, List.length_drop, List.length_cons, List.length_nil]; omega) (by omega) ?_
        intro v6 w6 ho6 hb6 hg6
        have hk6 : Keep wd w6 := hk5.grown hg6 (fun b hb => (ho5.lt hb).1)
        repeat refine zz ?_
        have e : sortN id L (i + 1) = [] ++ S.take k ++ [gi L (i : Int)] ++ S.drop k := by
          rw [sortN, hS, insP, hSl, hpos]; simp
        refine ⟨(i + 1, v6), ⟨rfl, rfl, rfl, trivial⟩, ⟨hkd2.keep hk6, by dsimp only; omega, ?_⟩, by dsimp only; omega⟩
        dsimp only
        rw [e]
        exact ho6.below (hkd2.size_le)
    · simp at h
      repeat refine qq ?_
      intro wd hkd 
      obtain rfl : k = 0 := by omega
      have hpos : posP id S (gi L (i : Int)) i = 0 := by rw [hpos]; rfl
      repeat refine zz ?_
      have hkd2 := hkc.keep hkd
      have hod := hob.keep hkd
      have hsd := hso.keep hkd
      refine o_buildSlice rfl rfl rfl rfl rfl (by intro p hp; cases hp) (by omega) ?_
      intro b2 w2 hal2
      have hk2 := hal2.kp
      have ho2 : OwnF intR w2 wd.heap.size 3 (.slice (some ⟨b2, 0, none⟩) 0 0) [] [] := OwnF.made hal2.blk (by have := hal2.b_eq; omega)
      have hz2 := hk2.size_le
      repeat refine zz ?_
      refine WL_pure rfl rfl (o_slice_hi (h := 0) rfl rfl (by omega)) ?_
      repeat refine zz ?_
      refine o_appendF (R := intR) (M := _) (gi := []) rfl rfl rfl rfl rfl (by decide) ho2 ((hsd.keep hk2).srcI.takeI 0) (by rw [List.length_take]; omega) (Fresh.nil _ _) (fun b hb => by simp at hb) (fun b hb => (ho2.lt hb).2) (fun b hb => by simp at hb) (by rw [List.length_take]; simp only [List.length_nil]; omega) (by rw [List.length_take]; simp only [List.length_nil]; omega) (by omega) ?_
      intro v3 w3 ho3 hb3 hg3
      have hk3 : Keep wd w3 := hk2.grown hg3 (fun b hb => (ho2.lt hb).1)
      obtain ⟨hAi, hci3⟩ := (((hx.keep hkc).keep hkd).keep hk3).getI (i := (i : Int)) (by omega) (by omega)
      repeat refine zz ?_
      refine o_buildSlice rfl rfl rfl rfl rfl (by simp [Value.cells]) (by omega) ?_
      intro b4 w4 hal4
      have hk4 := hk3.keep hal4.kp
      have ho4 := ho3.keep hal4.kp
      have hz4 := hk4.size_le
      repeat refine zz ?_
      refine o_appendF (R := intR) (M := _) (gi := []) rfl rfl rfl rfl rfl (by decide) ho4 (Blk.src (xs := [gi L (i : Int)]) hal4.blk (Rows.ints _ _)) rfl (Fresh.nil _ _) (fun b hb => by simp at hb) (fun b hb => (ho4.lt hb).2) (fun b hb => by simp at hb) (by simp only [List.nil_append, List.length_take, List.length_cons, List.length_nil]; omega) (by simp only [List.nil_append, List.length_take, List.length_cons, List.length_nil]; omega) (by omega) ?_
      intro v5 w5 ho5 hb5 hg5
      have hk5 : Keep wd w5 := hk4.grown hg5 (fun b hb => (ho4.lt hb).1)
      have hz5 := hk5.size_le
      repeat refine zz ?_
      refine WL_pure rfl rfl (o_slice_lo (l := 0) rfl rfl (by omega)) ?_
      repeat refine zz ?_
      refine o_appendF (R := intR) (M := _) (gi := []) rfl rfl rfl rfl rfl (by decide) ho5 ((hsd.keep hk5).srcI.dropI (k := 0) (c := co) (by omega) (by omega)) (by rw [List.length_drop]; omega) (Fresh.nil _ _) (fun b hb => by simp at hb) (fun b hb => (ho5.lt hb).2) (fun b hb => by simp at hb) (by simp only [List.length_append, List.nil_append, List.length_take, List.length_drop, List.length_cons, List.length_nil]; omega) (by simp only [List.length_append, List.nil_append, List.length_take, List.length_drop, List.length_cons, List.length_nil]; omega) (by omega) ?_
      intro v6 w6 ho6 hb6 hg6
      have hk6 : Keep wd w6 := hk5.grown hg6 (fun b hb => (ho5.lt hb).1)
      repeat refine zz ?_
      have e : sortN id L (i + 1) = [] ++ S.take 0 ++ [gi L (i : Int)] ++ S.drop 0 := by
        rw [sortN, hS, insP, hSl, hpos]; simp
      refine ⟨(i + 1, v6), ⟨rfl, rfl, rfl, trivial⟩, ⟨hkd2.keep hk6, by dsimp only; omega, ?_⟩, by dsimp only; omega⟩
      dsimp only
      rw [e]
      exact ho6.below (hkd2.size_le)
  · simp at hc
    obtain rfl : i = n := by omega
    repeat refine zz ?_
    obtain ⟨fp, hs, hf⟩ := hoa.sl (by decide)
    exact ret1 rfl rfl ⟨hka, fp, by rw [sortP, ← hnx]; exact hs, hf⟩
end Go.E

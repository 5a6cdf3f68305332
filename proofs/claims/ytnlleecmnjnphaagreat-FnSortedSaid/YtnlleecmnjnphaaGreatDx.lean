/-
  Contracts: what the law on sorted access draws. Conditions: as stated.
-/
import Derived.Test.YtnlleecmnjnphaaGreatGd

set_option linter.unusedVariables false
set_option linter.unusedSimpArgs false
namespace Go.E
open Go Go.RowKit Go.Proofs
attribute [local irreducible] W WL WD WE thenE inE retQ PureOp Keep Cell Cells Blk Sl Rows Own Src Fresh
attribute [local irreducible] Cur

set_option maxHeartbeats 2000000 in
theorem l9Fields_ok {w : World} {b : Nat} (hc : Cur w b) :
    Run Tryz.prog 50 [.pointer (some ⟨b, 0, none⟩)] w (fun r w' => ∃ xs, OwnF intR w' w.heap.size 3 r xs [] ∧ xs.length ≤ 4 ∧ Cur w' b ∧ Wrs w w' [b]) := by
  have hbl := hc.lt
  refine Run_intro Tryz.func50 (by unfold CallOk; kernel_rfl) rfl Tryz.ntmps50 (Nat.le_of_ble_eq_true rfl) ?_
  simp only [penv, Nat.reduceAdd, Nat.zero_add]
  repeat refine zz ?_
  refine o_buildSlice rfl rfl rfl rfl rfl (by intro p hp; cases hp) (by omega) ?_
  intro bO wO halO
  have hkO := halO.kp
  have ho : OwnF intR wO w.heap.size 3 (.slice (some ⟨bO, 0, none⟩) 0 0) [] [] := OwnF.made halO.blk (by have := halO.b_eq; omega)
  have hw : Wrs w wO [b] := hkO.wrs
  replace hc := hc.keep hkO
  repeat refine zz ?_
  refine W_loop (S := Nat × Value × List Int) (fun s => [(0, .pointer (some ⟨b, 0, none⟩)), (3, s.2.1), (4, .int .i64 (s.1 : Int))]) (fun s w' => Wrs w w' [b] ∧ Cur w' b ∧ (s.1 ≤ 3 ∧ s.2.2.length ≤ s.1) ∧ OwnF intR w' w.heap.size 3 s.2.1 s.2.2 []) (fun s => 3 - s.1) (0, _, []) ⟨rfl, rfl, rfl, trivial⟩ ⟨hw, hc, ⟨by omega, Nat.le_refl _⟩, ho⟩ ?_
  clear hw hc ho halO hkO
  rintro ⟨k, va, xs⟩ wa ⟨hwa, hca, ⟨hk, hxl⟩, hoa⟩
  dsimp only at hk hxl hoa ⊢
  have hza := hwa.size
  repeat refine zz ?_
  refine W_cond rfl (fun hd => ?_) (fun hd => ?_)
  · have hkl : k < 3 := by simp at hd; omega
    repeat refine zz ?_
    refine o_call rfl rfl rfl (l1Once_ok hca (by omega)) ?_
    rintro _ w1 ⟨q, rfl, hc1, hw1⟩
    replace hwa := hwa.trans hw1
    replace hoa := hoa.wrs hw1 (by omega)
    have hz1 := hw1.size
    repeat refine zz ?_
    refine W_cond rfl (fun hq => ?_) (fun hq => ?_)
    · repeat refine zz ?_
      refine o_buildSlice rfl rfl rfl rfl rfl (by simp [Value.cells]) (by omega) ?_
      intro b5 w5 hal5
      have hz5 := hal5.size
      replace hwa := hwa.keepR hal5.kp
      replace hoa := hoa.keep hal5.kp
      replace hc1 := hc1.keep hal5.kp
      repeat refine zz ?_
      refine o_appendF (R := intR) (M := _) (gi := []) rfl rfl rfl rfl rfl (by decide) hoa (Blk.src (xs := [(k : Int)]) hal5.blk (Rows.ints _ _)) rfl (Fresh.nil _ _) (fun b hb => by simp at hb) (fun b hb => (hoa.lt hb).2) (fun b hb => by simp at hb) (by simp only [List.length_cons, List.length_nil]; omega) (by simp only [List.length_cons, List.length_nil]; omega) (by omega) ?_
      intro vN wN hoN hbN hgN
      have hrow := fun c hc => (hoa.lt (b := c) hc).1
      repeat refine zz ?_
      exact ⟨(k + 1, vN, xs ++ [(k : Int)]), ⟨rfl, rfl, rfl, trivial⟩, ⟨hwa.grown hgN hrow, hc1.grown hgN (fun c hc => by have := hrow c hc; omega), ⟨by dsimp only; omega, by simp only [List.length_append, List.length_cons, List.length_nil]; omega⟩, hoN⟩, by dsimp only; omega⟩
    · repeat refine zz ?_
      exact ⟨(k + 1, va, xs), ⟨rfl, rfl, rfl, trivial⟩, ⟨hwa, hc1, ⟨by dsimp only; omega, by dsimp only; omega⟩, hoa⟩, by dsimp only; omega⟩
  · repeat refine zz ?_
    refine o_call rfl rfl rfl (l1Once_ok hca (by omega)) ?_
    rintro _ w1 ⟨q, rfl, hc1, hw1⟩
    replace hwa := hwa.trans hw1
    replace hoa := hoa.wrs hw1 (by omega)
    have hz1 := hw1.size
    repeat refine zz ?_
    refine W_cond rfl (fun hq => ?_) (fun hq => ?_)
    · repeat refine zz ?_
      refine o_buildSlice rfl rfl rfl rfl rfl (by simp [Value.cells]) (by omega) ?_
      intro b7 w7 hal7
      have he7 := hal7.b_eq
      have hz7 := hal7.size
      have hs7 : Sl intR w7 (.slice (some ⟨b7, 0, none⟩) 3 3) [-1, 0, 3] [b7] := Sl.ofInts (xs := [-1, 0, 3]) hal7.blk (fun i hi => by
        rcases (show i = 0 ∨ i = 1 ∨ i = 2 by simp at hi; omega) with rfl | rfl | rfl <;> rfl) rfl (Nat.le_refl _)
      have hb1 := hc1.lt
      replace hwa := hwa.keepR hal7.kp
      replace hc1 := hc1.keep hal7.kp
      replace hoa := hoa.keep hal7.kp
      repeat refine zz ?_
      refine o_call rfl rfl rfl (l1PickInt_ok hc1 hs7 (by simp; omega) (by simp) (by simp)) ?_
      rintro _ w8 ⟨i8, hi8, rfl, hc8, hw8⟩
      replace hwa := hwa.trans hw8
      replace hoa := hoa.wrs hw8 (by omega)
      have hz8 := hw8.size
      generalize gi ([-1, 0, 3] : List Int) (i8 : Int) = y
      repeat refine zz ?_
      refine o_buildSlice rfl rfl rfl rfl rfl (by simp [Value.cells]) (by omega) ?_
      intro b5 w5 hal5
      have hz5 := hal5.size
      replace hwa := hwa.keepR hal5.kp
      replace hoa := hoa.keep hal5.kp
      replace hc8 := hc8.keep hal5.kp
      repeat refine zz ?_
      refine o_appendF (R := intR) (M := _) (gi := []) rfl rfl rfl rfl rfl (by decide) hoa (Blk.src (xs := [y]) hal5.blk (Rows.ints _ _)) rfl (Fresh.nil _ _) (fun b hb => by simp at hb) (fun b hb => (hoa.lt hb).2) (fun b hb => by simp at hb) (by simp only [List.length_cons, List.length_nil]; omega) (by simp only [List.length_cons, List.length_nil]; omega) (by omega) ?_
      intro vN wN hoN hbN hgN
      have hrow := fun c hc => (hoa.lt (b := c) hc).1
      repeat refine zz ?_
      exact ret1 rfl rfl ⟨_, hoN, by simp only [List.length_append, List.length_cons, List.length_nil]; omega, hc8.grown hgN (fun c hc => by have := hrow c hc; omega), hwa.grown hgN hrow⟩
    · repeat refine zz ?_
      exact ret1 rfl rfl ⟨_, hoa, by omega, hc1, hwa⟩

set_option maxHeartbeats 1000000 in
theorem l9Draw_ok {w : World} {v : Value} {xs : List Int} {fp : List Nat} (hx : Sl u8R w v xs fp) (hn : xs.length ≤ 1048576) :
    Run Tryz.prog 21 [v] w (fun r w' => Keep w w' ∧ ∃ (u z : Value) (L : List Itm) (F : List Int) (fl ff : List Nat), r = .tuple #[u, z] ∧ Sl itemR w' u L fl ∧ L.length ≤ 101 ∧ small L ∧ Sl intR w' z F ff ∧ F.length ≤ 4) := by
  refine Run_intro Tryz.func21 (by unfold CallOk; kernel_rfl) rfl Tryz.ntmps21 (Nat.le_of_ble_eq_true rfl) ?_
  simp only [penv, Nat.reduceAdd, Nat.zero_add]
  repeat refine zz ?_
  refine o_call rfl rfl rfl (l1New_ok hx hn) ?_
  rintro _ w1 ⟨b, rfl, hb, hc, hk⟩
  have hbl := hc.lt
  repeat refine zz ?_
  refine o_call rfl rfl rfl (l2Any_ok hc) ?_
  rintro _ w2 ⟨L, fi, ho, hl, hsm, hc2, hw⟩
  obtain ⟨f, hs, hf⟩ := ho.sl (by decide)
  have hgb : b ∉ f := fun hm => by have := hf.ge hm; omega
  repeat refine zz ?_
  refine o_call rfl rfl rfl (l9Fields_ok hc2) ?_
  rintro _ w3 ⟨F, hoF, hlF, hc3, hw3⟩
  obtain ⟨fF, hsF, _⟩ := hoF.sl (by decide)
  replace hs := hs.wrs hw3 (fun k h1 h2 => hgb (by simp at h2; exact h2 ▸ h1))
  replace hw := hw.trans hw3
  repeat refine zz ?_
  exact ret2 rfl rfl rfl ⟨hw.keep hk (fun c hc => by simp at hc; omega), _, _, L, F, f, fF, rfl, hs, hl, hsm, hsF, hlF⟩

theorem DrawSortedBest_ok {w : World} {v : Value} {xs : List Int} {fp : List Nat} (hx : Sl u8R w v xs fp) (hn : xs.length ≤ 1048576) :
    Run Tryz.prog 5 [v] w (fun r w' => Keep w w' ∧ ∃ (u z : Value) (L : List Itm) (F : List Int) (fl ff : List Nat), r = .tuple #[u, z] ∧ Sl itemR w' u L fl ∧ L.length ≤ 101 ∧ small L ∧ Sl intR w' z F ff ∧ F.length ≤ 4) := by
  refine Run_intro Tryz.func5 (by unfold CallOk; kernel_rfl) rfl Tryz.ntmps5 (Nat.le_of_ble_eq_true rfl) ?_
  simp only [penv, Nat.reduceAdd, Nat.zero_add]
  repeat refine zz ?_
  refine o_call rfl rfl rfl (l9Draw_ok hx hn) ?_
  rintro _ w1 ⟨hk, u, z, L, F, fl, ff, rfl, hs, hl, hsm, hsF, hlF⟩
  repeat refine zz ?_
  exact ret2 rfl rfl rfl ⟨hk, _, _, L, F, fl, ff, rfl, hs, hl, hsm, hsF, hlF⟩

set_option maxHeartbeats 1000000 in
theorem DrawSortByField_ok {w : World} {v : Value} {xs : List Int} {fp : List Nat} (hx : Sl u8R w v xs fp) (hn : xs.length ≤ 1048576) :
    Run Tryz.prog 18 [v] w (fun r w' => Keep w w' ∧ ∃ (u : Value) (L : List Itm) (fl : List Nat) (q : Int), r = .tuple #[u, .int .i64 q] ∧ Sl itemR w' u L fl ∧ L.length ≤ 101 ∧ small L) := by
  refine Run_intro Tryz.func18 (by unfold CallOk; kernel_rfl) rfl Tryz.ntmps18 (Nat.le_of_ble_eq_true rfl) ?_
  simp only [penv, Nat.reduceAdd, Nat.zero_add]
  repeat refine zz ?_
  refine o_call rfl rfl rfl (l1New_ok hx hn) ?_
  rintro _ w1 ⟨b, rfl, hb, hc, hk⟩
  have hbl := hc.lt
  repeat refine zz ?_
  refine o_call rfl rfl rfl (l2Any_ok hc) ?_
  rintro _ w2 ⟨L, fi, ho, hl, hsm, hc2, hw⟩
  obtain ⟨f, hs, hf⟩ := ho.sl (by decide)
  have hgb : b ∉ f := fun hm => by have := hf.ge hm; omega
  repeat refine zz ?_
  refine o_call rfl rfl rfl (l1Below_ok hc2 (by omega)) ?_
  rintro _ w3 ⟨q, rfl, hq0, hq1, hq2, hc3, hw3⟩
  replace hs := hs.wrs hw3 (fun k h1 h2 => hgb (by simp at h2; exact h2 ▸ h1))
  replace hw := hw.trans hw3
  repeat refine zz ?_
  exact ret2 rfl rfl rfl ⟨hw.keep hk (fun c hc => by simp at hc; omega), _, L, f, _, rfl, hs, hl, hsm⟩
end Go.E

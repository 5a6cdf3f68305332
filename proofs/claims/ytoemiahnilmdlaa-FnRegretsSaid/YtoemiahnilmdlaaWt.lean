/-
  Contracts: the lists of weights, by the program and by the reference. Conditions: none.
-/
import Derived.Test.YtoemiahnilmdlaaLa
import Derived.Test.YtoemiahnilmdlaaMrk
set_option linter.unusedVariables false
set_option linter.unusedSimpArgs false
namespace Go.E
open Go Go.RowKit Go.Proofs
attribute [local irreducible] W WL WD WE thenE inE retQ PureOp Keep Cell Cells Blk Sl Rows Own Src Fresh

set_option maxHeartbeats 1000000 in
theorem impl_WeightLists_ok (w : World) : Run Try.prog 26 [] w (fun r w' => Keep w w' ∧ ∃ fp, Sl (slR intR) w' r weightLists fp ∧ Fresh w.heap.size w' fp) := by
  refine Run_intro Try.func26 (by unfold CallOk; kernel_rfl) rfl Try.ntmps26 (Nat.le_of_ble_eq_true rfl) ?_
  simp only [penv, Nat.reduceAdd, Nat.zero_add]
  repeat refine zz ?_
  refine o_buildSlice rfl rfl rfl rfl rfl (by intro p hp; cases hp) (by omega) ?_
  intro b0 w1 hal
  have hk1 := hal.kp
  have ho1 : OwnF (slR intR) w1 w.heap.size 24 (.slice (some ⟨b0, 0, none⟩) 0 0) [] [] := OwnF.made hal.blk (by have := hal.b_eq; omega)
  repeat refine zz ?_
  refine W_loop (S := Nat × Value × List Nat) (fun s => [(1, s.2.1), (2, .int .i64 (s.1 : Int))]) (fun s w' => Keep w w' ∧ s.1 ≤ 4 ∧ OwnF (slR intR) w' w.heap.size 24 s.2.1 (wl1 s.1) s.2.2) (fun s => 4 - s.1) (0, _, []) ⟨rfl, rfl, trivial⟩ ⟨hk1, by omega, by simpa [wl1] using ho1⟩ ?_
  rintro ⟨a, va, fa⟩ wa ⟨hka, hla, hoa⟩
  dsimp only at hla hoa ⊢
  repeat refine zz ?_
  refine W_cond rfl (fun hc => ?_) (fun hc => ?_)
  · simp at hc
    repeat refine zz ?_
    refine W_loop (S := Nat × Value × List Nat) (fun s => [(1, s.2.1), (2, .int .i64 (a : Int)), (3, .int .i64 (s.1 : Int))]) (fun s w' => Keep w w' ∧ s.1 ≤ 4 ∧ OwnF (slR intR) w' w.heap.size 24 s.2.1 (wl1 a ++ wl2 (a : Int) s.1) s.2.2) (fun s => 4 - s.1) (0, va, fa) ⟨rfl, rfl, rfl, trivial⟩ ⟨hka, by omega, by simpa [wl2] using hoa⟩ ?_
    rintro ⟨b, vb, fb⟩ wb ⟨hkb, hlb, hob⟩
    dsimp only at hlb hob ⊢
    repeat refine zz ?_
    refine W_cond rfl (fun hc2 => ?_) (fun hc2 => ?_)
    · simp at hc2
      repeat refine zz ?_
      refine W_loop (S := Nat × Value × List Nat) (fun s => [(1, s.2.1), (2, .int .i64 (a : Int)), (3, .int .i64 (b : Int)), (4, .int .i64 (s.1 : Int))]) (fun s w' => Keep w w' ∧ s.1 ≤ 4 ∧ OwnF (slR intR) w' w.heap.size 24 s.2.1 (wl1 a ++ wl2 (a : Int) b ++ wl3 (a : Int) (b : Int) s.1) s.2.2) (fun s => 4 - s.1) (0, vb, fb) ⟨rfl, rfl, rfl, rfl, trivial⟩ ⟨hkb, by omega, by simpa [wl3] using hob⟩ ?_
      rintro ⟨c, vc, fc⟩ wc ⟨hkc, hlc, hoc⟩
      dsimp only at hlc hoc ⊢
      have hlen : (wl1 a ++ wl2 (a : Int) b ++ wl3 (a : Int) (b : Int) c).length ≤ 128 := by
        have h1 := wl1_len a; have h2 := wl2_len (a : Int) b; have h3 := wl3_len (a : Int) (b : Int) c
        simp only [List.length_append]; omega
      repeat refine zz ?_
      refine W_cond rfl (fun hc3 => ?_) (fun hc3 => ?_)
      · simp at hc3
        repeat refine zz ?_
        refine W_cond rfl (fun hp => ?_) (fun hp => ?_)
        · simp at hp
          repeat refine zz ?_
          refine o_buildSlice rfl rfl rfl rfl rfl (by simp [Value.cells]) (by omega) ?_
          intro b1 w2 hal2
          have hs2 : Sl (intR) w2 (.slice (some ⟨b1, 0, none⟩) 3 3) [(a : Int), (b : Int), (c : Int)] [b1] := Sl.ofBlk (xs := [(a : Int), (b : Int), (c : Int)]) hal2.blk (Rows.ints _ _) (fun j u h => h) (Nat.le_refl _)
          repeat refine zz ?_
          refine o_buildSlice rfl rfl rfl rfl rfl (by simp [Value.cells]) (by omega) ?_
          intro b2 w3 hal3
          have hs3 := hs2.keep hal3.kp
          have hsz2 := hal2.size
          have hsz3 := hal3.size
          have hb1 := hal2.b_eq
          have hkw := hka.size_le
          have hkc3 : Keep w w3 := (hkc.keep hal2.kp).keep hal3.kp
          have hoc3 := (hoc.keep hal2.kp).keep hal3.kp
          have hkcs := hkc.size_le
          repeat refine zz ?_
          refine o_appendF (R := slR intR) (M := wc.heap.size) (gi := [b1]) rfl rfl rfl rfl rfl (by decide) hoc3 (Blk.src (xs := [[(a : Int), (b : Int), (c : Int)]]) hal3.blk (Rows.single ⟨_, rfl, hs3⟩)) rfl (Fresh.one (hal2.blk.keep hal3.kp) (by omega)) (fun b hb => hoc.fresh.dom b hb) (fun b hb => (hoc.lt hb).2) (fun b hb => by simp at hb; omega) (by simp only [List.length_cons, List.length_nil]; omega) (by simp only [List.length_cons, List.length_nil]; omega) (by omega) ?_
          intro v4 w4 ho4 hb4 _
          have hk4 := hkc3.below hb4 (Nat.le_refl _)
          repeat refine zz ?_
          exact ⟨(c + 1, v4, _), ⟨rfl, rfl, rfl, rfl, trivial⟩, ⟨hk4, by dsimp only; omega, by dsimp only; rw [wl3_succ, if_pos (by omega), ← List.append_assoc]; exact ho4⟩, by dsimp only; omega⟩
        · simp at hp
          repeat refine zz ?_
          exact ⟨(c + 1, vc, _), ⟨rfl, rfl, rfl, rfl, trivial⟩, ⟨hkc, by dsimp only; omega, by dsimp only; rw [wl3_succ, if_neg (by omega), List.append_nil]; exact hoc⟩, by dsimp only; omega⟩
      · simp at hc3
        obtain rfl : c = 4 := by omega
        repeat refine zz ?_
        exact ⟨(b + 1, vc, _), ⟨rfl, rfl, rfl, trivial⟩, ⟨hkc, by dsimp only; omega, by dsimp only; rw [wl2_succ, ← List.append_assoc]; exact hoc⟩, by dsimp only; omega⟩
    · simp at hc2
      obtain rfl : b = 4 := by omega
      repeat refine zz ?_
      exact ⟨(a + 1, vb, _), ⟨rfl, rfl, trivial⟩, ⟨hkb, by dsimp only; omega, by dsimp only; rw [wl1_succ]; exact hob⟩, by dsimp only; omega⟩
  · simp at hc
    obtain rfl : a = 4 := by omega
    repeat refine zz ?_
    obtain ⟨fp, hs, hf⟩ := hoa.sl (by decide)
    exact ret1 rfl rfl ⟨hka, fp, hs, hf⟩

set_option maxHeartbeats 1000000 in
theorem spec_WeightLists_ok (w : World) : Run Try.prog 28 [] w (fun r w' => Keep w w' ∧ ∃ fp, Sl (slR intR) w' r weightLists fp ∧ Fresh w.heap.size w' fp) := by
  refine Run_intro Try.func28 (by unfold CallOk; kernel_rfl) rfl Try.ntmps28 (Nat.le_of_ble_eq_true rfl) ?_
  simp only [penv, Nat.reduceAdd, Nat.zero_add]
  repeat refine zz ?_
  refine o_buildSlice rfl rfl rfl rfl rfl (by intro p hp; cases hp) (by omega) ?_
  intro b0 w1 hal
  have hk1 := hal.kp
  have ho1 : OwnF (slR intR) w1 w.heap.size 24 (.slice (some ⟨b0, 0, none⟩) 0 0) [] [] := OwnF.made hal.blk (by have := hal.b_eq; omega)
  repeat refine zz ?_
  refine W_loop (S := Nat × Value × List Nat) (fun s => [(1, s.2.1), (2, .int .i64 (s.1 : Int))]) (fun s w' => Keep w w' ∧ s.1 ≤ 4 ∧ OwnF (slR intR) w' w.heap.size 24 s.2.1 (wl1 s.1) s.2.2) (fun s => 4 - s.1) (0, _, []) ⟨rfl, rfl, trivial⟩ ⟨hk1, by omega, by simpa [wl1] using ho1⟩ ?_
  rintro ⟨a, va, fa⟩ wa ⟨hka, hla, hoa⟩
  dsimp only at hla hoa ⊢
  repeat refine zz ?_
  refine W_cond rfl (fun hc => ?_) (fun hc => ?_)
  · simp at hc
    repeat refine zz ?_
    refine W_loop (S := Nat × Value × List Nat) (fun s => [(1, s.2.1), (2, .int .i64 (a : Int)), (3, .int .i64 (s.1 : Int))]) (fun s w' => Keep w w' ∧ s.1 ≤ 4 ∧ OwnF (slR intR) w' w.heap.size 24 s.2.1 (wl1 a ++ wl2 (a : Int) s.1) s.2.2) (fun s => 4 - s.1) (0, va, fa) ⟨rfl, rfl, rfl, trivial⟩ ⟨hka, by omega, by simpa [wl2] using hoa⟩ ?_
    rintro ⟨b, vb, fb⟩ wb ⟨hkb, hlb, hob⟩
    dsimp only at hlb hob ⊢
    repeat refine zz ?_
    refine W_cond rfl (fun hc2 => ?_) (fun hc2 => ?_)
    · simp at hc2
      repeat refine zz ?_
      refine W_loop (S := Nat × Value × List Nat) (fun s => [(1, s.2.1), (2, .int .i64 (a : Int)), (3, .int .i64 (b : Int)), (4, .int .i64 (s.1 : Int))]) (fun s w' => Keep w w' ∧ s.1 ≤ 4 ∧ OwnF (slR intR) w' w.heap.size 24 s.2.1 (wl1 a ++ wl2 (a : Int) b ++ wl3 (a : Int) (b : Int) s.1) s.2.2) (fun s => 4 - s.1) (0, vb, fb) ⟨rfl, rfl, rfl, rfl, trivial⟩ ⟨hkb, by omega, by simpa [wl3] using hob⟩ ?_
      rintro ⟨c, vc, fc⟩ wc ⟨hkc, hlc, hoc⟩
      dsimp only at hlc hoc ⊢
      have hlen : (wl1 a ++ wl2 (a : Int) b ++ wl3 (a : Int) (b : Int) c).length ≤ 128 := by
        have h1 := wl1_len a; have h2 := wl2_len (a : Int) b; have h3 := wl3_len (a : Int) (b : Int) c
        simp only [List.length_append]; omega
      repeat refine zz ?_
      refine W_cond rfl (fun hc3 => ?_) (fun hc3 => ?_)
      · simp at hc3
        repeat refine zz ?_
        refine W_cond rfl (fun hp => ?_) (fun hp => ?_)
        · simp at hp
          repeat refine zz ?_
          refine o_buildSlice rfl rfl rfl rfl rfl (by simp [Value.cells]) (by omega) ?_
          intro b1 w2 hal2
          have hs2 : Sl (intR) w2 (.slice (some ⟨b1, 0, none⟩) 3 3) [(a : Int), (b : Int), (c : Int)] [b1] := Sl.ofBlk (xs := [(a : Int), (b : Int), (c : Int)]) hal2.blk (Rows.ints _ _) (fun j u h => h) (Nat.le_refl _)
          repeat refine zz ?_
          refine o_buildSlice rfl rfl rfl rfl rfl (by simp [Value.cells]) (by omega) ?_
          intro b2 w3 hal3
          have hs3 := hs2.keep hal3.kp
          have hsz2 := hal2.size
          have hsz3 := hal3.size
          have hb1 := hal2.b_eq
          have hkw := hka.size_le
          have hkc3 : Keep w w3 := (hkc.keep hal2.kp).keep hal3.kp
          have hoc3 := (hoc.keep hal2.kp).keep hal3.kp
          have hkcs := hkc.size_le
          repeat refine zz ?_
          refine o_appendF (R := slR intR) (M := wc.heap.size) (gi := [b1]) rfl rfl rfl rfl rfl (by decide) hoc3 (Blk.src (xs := [[(a : Int), (b : Int), (c : Int)]]) hal3.blk (Rows.single ⟨_, rfl, hs3⟩)) rfl (Fresh.one (hal2.blk.keep hal3.kp) (by omega)) (fun b hb => hoc.fresh.dom b hb) (fun b hb => (hoc.lt hb).2) (fun b hb => by simp at hb; omega) (by simp only [List.length_cons, List.length_nil]; omega) (by simp only [List.length_cons, List.length_nil]; omega) (by omega) ?_
          intro v4 w4 ho4 hb4 _
          have hk4 := hkc3.below hb4 (Nat.le_refl _)
          repeat refine zz ?_
          exact ⟨(c + 1, v4, _), ⟨rfl, rfl, rfl, rfl, trivial⟩, ⟨hk4, by dsimp only; omega, by dsimp only; rw [wl3_succ, if_pos (by omega), ← List.append_assoc]; exact ho4⟩, by dsimp only; omega⟩
        · simp at hp
          repeat refine zz ?_
          exact ⟨(c + 1, vc, _), ⟨rfl, rfl, rfl, rfl, trivial⟩, ⟨hkc, by dsimp only; omega, by dsimp only; rw [wl3_succ, if_neg (by omega), List.append_nil]; exact hoc⟩, by dsimp only; omega⟩
      · simp at hc3
        obtain rfl : c = 4 := by omega
        repeat refine zz ?_
        exact ⟨(b + 1, vc, _), ⟨rfl, rfl, rfl, trivial⟩, ⟨hkc, by dsimp only; omega, by dsimp only; rw [wl2_succ, ← List.append_assoc]; exact hoc⟩, by dsimp only; omega⟩
    · simp at hc2
      obtain rfl : b = 4 := by omega
      repeat refine zz ?_
      exact ⟨(a + 1, vb, _), ⟨rfl, rfl, trivial⟩, ⟨hkb, by dsimp only; omega, by dsimp only; rw [wl1_succ]; exact hob⟩, by dsimp only; omega⟩
  · simp at hc
    obtain rfl : a = 4 := by omega
    repeat refine zz ?_
    obtain ⟨fp, hs, hf⟩ := hoa.sl (by decide)
    exact ret1 rfl rfl ⟨hka, fp, hs, hf⟩

end Go.E

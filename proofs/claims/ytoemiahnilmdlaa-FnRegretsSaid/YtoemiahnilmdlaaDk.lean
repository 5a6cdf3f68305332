/-
  Contracts: what the laws on blocks draw. Conditions: as stated.
-/
import Derived.Test.YtoemiahnilmdlaaGd
set_option linter.unusedVariables false
set_option linter.unusedSimpArgs false
namespace Go.E
open Go Go.RowKit Go.Proofs
attribute [local irreducible] W WL WD WE thenE inE retQ PureOp Keep Cell Cells Blk Sl Rows Own Src Fresh
attribute [local irreducible] Cur

set_option maxHeartbeats 2000000 in
theorem l8Ids_ok {w : World} {b : Nat} {v : Value} {L : List Itm} {fp : List Nat} (hc : Cur w b) (hL : Sl itemR w v L fp) (hgb : b ∉ fp) (hl : L.length ≤ 101) :
    Run Try.prog 117 [.pointer (some ⟨b, 0, none⟩), v] w (fun r w' => ∃ xs, OwnF intR w' w.heap.size 3 r xs [] ∧ xs.length ≤ 102 ∧ Cur w' b ∧ Wrs w w' [b]) := by
  have hbl := hc.lt
  obtain ⟨A, n, c, rfl, hnx⟩ := hL.split
  have hup := hL.dom
  refine Run_intro Try.func117 (by unfold CallOk; kernel_rfl) rfl Try.ntmps117 (Nat.le_of_ble_eq_true rfl) ?_
  simp only [penv, Nat.reduceAdd, Nat.zero_add]
  repeat refine zz ?_
  refine o_buildSlice rfl rfl rfl rfl rfl (by intro p hp; cases hp) (by omega) ?_
  intro bO wO halO
  have hkO := halO.kp
  have ho : OwnF intR wO w.heap.size 3 (.slice (some ⟨bO, 0, none⟩) 0 0) [] [] := OwnF.made halO.blk (by have := halO.b_eq; omega)
  have hw : Wrs w wO [b] := hkO.wrs
  replace hc := hc.keep hkO
  repeat refine zz ?_
  refine W_loop (S := Nat × Value × List Int) (fun s => [(0, .pointer (some ⟨b, 0, none⟩)), (1, .slice A n c), (5, s.2.1), (6, .int .i64 (s.1 : Int))]) (fun s w' => Wrs w w' [b] ∧ Cur w' b ∧ (s.1 ≤ n ∧ s.2.2.length ≤ s.1) ∧ OwnF intR w' w.heap.size 3 s.2.1 s.2.2 []) (fun s => n - s.1) (0, _, []) ⟨rfl, rfl, rfl, rfl, trivial⟩ ⟨hw, hc, ⟨by omega, Nat.le_refl _⟩, ho⟩ ?_
  clear hw hc ho halO hkO
  rintro ⟨k, va, xs⟩ wa ⟨hwa, hca, ⟨hk, hxl⟩, hoa⟩
  dsimp only at hk hxl hoa ⊢
  have hza := hwa.size
  have hLa := hL.wrs hwa (fun k h1 h2 => hgb (by simp at h2; exact h2 ▸ h1))
  repeat refine zz ?_
  refine W_cond rfl (fun hd => ?_) (fun hd => ?_)
  · have hkl : k < n := by simp at hd; omega
    repeat refine zz ?_
    refine o_call rfl rfl rfl (l1Once_ok hca (by omega)) ?_
    rintro _ w1 ⟨q, rfl, hc1, hw1⟩
    replace hwa := hwa.trans hw1
    replace hoa := hoa.wrs hw1 (by omega)
    have hL1 := hLa.wrs hw1 (fun k h1 h2 => hgb (by simp at h2; exact h2 ▸ h1))
    obtain ⟨hA, u1, f1, hcell1, _, _⟩ := item_get hL1 (i := (k : Int)) (by omega) (by omega)
    have hz1 := hw1.size
    repeat refine zz ?_
    refine W_cond rfl (fun hq => ?_) (fun hq => ?_)
    · repeat refine zz ?_
      refine o_buildSlice rfl rfl rfl rfl rfl (by simp [Value.cells]) (by omega) ?_
      intro b5 w5 hal5
      have hz5 := hal5.size
      replace hwa := hwa.keepR hal5.kp
      replace hoa := hoa.keep hal5.kp
      replace hc1 := hc1.keep hal5.kp
      repeat refine zz ?_
      refine o_appendF (R := intR) (M := _) (gi := []) rfl rfl rfl rfl rfl (by decide) hoa (Blk.src (xs := [(gi L (k : Int)).id]) hal5.blk (Rows.ints _ _)) rfl (Fresh.nil _ _) (fun b hb => by simp at hb) (fun b hb => (hoa.lt hb).2) (fun b hb => by simp at hb) (by simp only [List.length_cons, List.length_nil]; omega) (by simp only [List.length_cons, List.length_nil]; omega) (by omega) ?_
      intro vN wN hoN hbN hgN
      have hrow := fun c hc => (hoa.lt (b := c) hc).1
      repeat refine zz ?_
      exact ⟨(k + 1, vN, xs ++ [(gi L (k : Int)).id]), ⟨rfl, rfl, rfl, rfl, trivial⟩, ⟨hwa.grown hgN hrow, hc1.grown hgN (fun c hc => by have := hrow c hc; omega), ⟨by dsimp only; omega, by simp only [List.length_append, List.length_cons, List.length_nil]; omega⟩, hoN⟩, by dsimp only; omega⟩
    · repeat refine zz ?_
      exact ⟨(k + 1, va, xs), ⟨rfl, rfl, rfl, rfl, trivial⟩, ⟨hwa, hc1, ⟨by dsimp only; omega, by dsimp only; omega⟩, hoa⟩, by dsimp only; omega⟩
  · repeat refine zz ?_
    refine o_call rfl rfl rfl (l1Once_ok hca (by omega)) ?_
    rintro _ w1 ⟨q, rfl, hc1, hw1⟩
    replace hwa := hwa.trans hw1
    replace hoa := hoa.wrs hw1 (by omega)
    have hz1 := hw1.size
    repeat refine zz ?_
    refine W_cond rfl (fun hq => ?_) (fun hq => ?_)
    · repeat refine zz ?_
      refine o_call rfl rfl rfl (l1Below_ok hc1 (by omega)) ?_
      rintro _ w2 ⟨y, rfl, hy0, hy1, _, hc2, hw2⟩
      replace hwa := hwa.trans hw2
      replace hoa := hoa.wrs hw2 (by omega)
      have hz2 := hw2.size
      repeat refine zz ?_
      refine o_buildSlice rfl rfl rfl rfl rfl (by simp [Value.cells]) (by omega) ?_
      intro b5 w5 hal5
      have hz5 := hal5.size
      replace hwa := hwa.keepR hal5.kp
      replace hoa := hoa.keep hal5.kp
      replace hc2 := hc2.keep hal5.kp
      repeat refine zz ?_
      refine o_appendF (R := intR) (M := _) (gi := []) rfl rfl rfl rfl rfl (by decide) hoa (Blk.src (xs := [y]) hal5.blk (Rows.ints _ _)) rfl (Fresh.nil _ _) (fun b hb => by simp at hb) (fun b hb => (hoa.lt hb).2) (fun b hb => by simp at hb) (by simp only [List.length_cons, List.length_nil]; omega) (by simp only [List.length_cons, List.length_nil]; omega) (by omega) ?_
      intro vN wN hoN hbN hgN
      have hrow := fun c hc => (hoa.lt (b := c) hc).1
      repeat refine zz ?_
      exact ret1 rfl rfl ⟨_, hoN, by simp only [List.length_append, List.length_cons, List.length_nil]; omega, hc2.grown hgN (fun c hc => by have := hrow c hc; omega), hwa.grown hgN hrow⟩
    · repeat refine zz ?_
      exact ret1 rfl rfl ⟨_, hoa, by omega, hc1, hwa⟩

theorem ret4 {P : Program} {N : Nat} {fn : Func} {R : Value → World → Prop} {e : Env} {w : World} {t u s z : Tmp} {v x y q : Value} (hr : fn.results = #[.tmp t, .tmp u, .tmp s, .tmp z]) (hv : find e t = some v) (hx : find e u = some x) (hy : find e s = some y) (hz : find e z = some q) (h : R (.tuple #[v, x, y, q]) w) : retQ P N fn R .ret e w := by
  unfold retQ
  exact ⟨_, fun a ha => by
    have h1 := (ha.val t v hv).2
    have h2 := (ha.val u x hx).2
    have h3 := (ha.val s y hy).2
    have h4 := (ha.val z q hz).2
    simp only [Array.getD_eq_getD_getElem?] at h1 h2 h3 h4
    simp [results, hr, h1, h2, h3, h4], h⟩

end Go.E

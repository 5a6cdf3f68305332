/-
  Contracts: all rewritings of an expression. Conditions: as stated.
-/
import Derived.Test.YtomkdoppjimhoaaNf
set_option linter.unusedVariables false
set_option linter.unusedSimpArgs false
namespace Go.E
open Go Go.RowKit Go.Proofs
attribute [local irreducible] W WL WD WE thenE inE retQ PureOp Keep Cell Cells Blk Sl Rows Own Src Fresh
attribute [local irreducible] isExpr applyR partR putR seg st hitR norm ruleK ruleAt step1 stepFrom totN rwAt

set_option maxHeartbeats 4000000 in
theorem impl_Rewritings_ok {w : World} {v : Value} {E : List Nod} {fp : List Nat} (hx : Sl nodeR w v E fp) (hn : E.length + totN E ≤ 1048576) :
    Run Try.prog 16 [v] w (fun r w' => Keep w w' ∧ ∃ fp, Sl rewR w' r (rewr E) fp ∧ Fresh w.heap.size w' fp) := by
  have hcase : isExpr E = true ∧ E.length ≤ 9 ∨ isExpr E = false := by
    cases h : isExpr E with
    | true => exact .inl ⟨rfl, (expr_small h).1⟩
    | false => exact .inr rfl
  have hq9 : ∀ p q : Nat, p < E.length → q ≤ 4 → ∀ y, applyR E ((q + 1 : Nat) : Int) (p : Int) = some y → E.length ≤ 9 := fun p q _ _ y h => (expr_small (applyR_expr h).1).1
  obtain ⟨A, n, c, rfl, hnx⟩ := hx.split
  refine Run_intro Try.func16 (by unfold CallOk; kernel_rfl) rfl Try.ntmps16 (Nat.le_of_ble_eq_true rfl) ?_
  simp only [penv, Nat.reduceAdd, Nat.zero_add]
  repeat refine zz ?_
  refine o_buildSlice rfl rfl rfl rfl rfl (by intro p hp; cases hp) (by omega) ?_
  intro bO wO halO
  have hkO := halO.kp
  have zO := halO.b_eq
  have ho1 : OwnF rewR wO w.heap.size 46 (.slice (some ⟨bO, 0, none⟩) 0 0) [] [] := OwnF.made halO.blk (by omega)
  repeat refine zz ?_
  refine W_loop (S := Nat × Value) (fun s => [(0, .slice A n c), (3, s.2), (10, .int .i64 (n : Int)), (11, .int .i64 (s.1 : Int))]) (fun s w' => Keep w w' ∧ s.1 ≤ n ∧ ∃ fi, OwnF rewR w' w.heap.size 46 s.2 (rwsN E s.1) fi) (fun s => n - s.1) (0, _) ⟨rfl, rfl, rfl, rfl, trivial⟩ ⟨hkO, Nat.zero_le _, [], ho1⟩ ?_
  clear ho1 hkO halO
  rintro ⟨p, va⟩ wa ⟨hka, hp, fa, hoa⟩
  dsimp only at hp hoa ⊢
  repeat refine zz ?_
  refine W_cond rfl (fun hc => ?_) (fun hc => ?_)
  · simp at hc
    have hpn : p < n := by omega
    repeat refine zz ?_
    refine W_loop (S := Nat × Value) (fun s => [(0, .slice A n c), (3, s.2), (10, .int .i64 (n : Int)), (11, .int .i64 (p : Int)), (4, .int .i64 (p : Int)), (5, .int .i64 ((s.1 + 1 : Nat) : Int))]) (fun s w' => Keep w w' ∧ s.1 ≤ 4 ∧ ∃ fi, OwnF rewR w' w.heap.size 46 s.2 (rwsN E p ++ rwN E p s.1) fi) (fun s => 4 - s.1) (0, va) ⟨rfl, rfl, rfl, rfl, rfl, rfl, trivial⟩ ⟨hka, Nat.zero_le _, fa, by simpa [rwN] using hoa⟩ ?_
    clear hka hoa
    rintro ⟨q, vc⟩ wc ⟨hkc, hq, fc, hoc⟩
    dsimp only at hq hoc ⊢
    repeat refine zz ?_
    refine W_cond rfl (fun hd => ?_) (fun hd => ?_)
    · simp at hd
      have hq3 : q < 4 := by omega
      repeat refine zz ?_
      refine o_call rfl rfl rfl (impl_ApplyRule_ok (hx.keep hkc) hn ((q + 1 : Nat) : Int) (p : Int)) ?_
      rintro _ wd ⟨hkd, u, fd, rfl, hod⟩
      cases hap : applyR E ((q + 1 : Nat) : Int) (p : Int) with
      | none =>
        repeat refine zz ?_
        exact ⟨(q + 1, vc), ⟨rfl, rfl, rfl, rfl, rfl, find_int rfl (by dsimp only; omega), trivial⟩, ⟨hkc.keep hkd, by dsimp only; omega, fc, by dsimp only; rw [rwN, rwAt_none hap, List.append_nil]; exact hoc.keep hkd⟩, by dsimp only; omega⟩
      | some y =>
        rw [hap] at hod
        have h9 := hq9 p q (by omega) hq y hap
        have hys := apply_small hap
        have hdm := hoc.fresh.dom
        have hown := fun c hc => (hoc.lt (b := c) hc).2
        have hrow := fun c hc => (hoc.lt (b := c) hc).1
        have hll : (rwsN E p ++ rwN E p q).length ≤ 40 := by have := (rwsN_bd E p).2; have := (rwN_bd E p q).2; rw [List.length_append]; omega
        have zc := hkc.size_le
        replace hkc := hkc.keep hkd
        replace hoc := hoc.keep hkd
        obtain ⟨fu, hsu, hfu⟩ := hod.sl (by decide)
        obtain ⟨Au, nu, cu, rfl, hnu, _⟩ := hod.split
        have ou := hsu.oneCell
        repeat refine zz ?_
        refine WL_pure rfl rfl (o_buildT (cs := [.int .i64 ((q + 1 : Nat) : Int), .int .i64 (p : Int), .slice Au nu cu]) rfl rfl) ?_
        repeat refine zz ?_
        refine o_buildSlice rfl rfl rfl rfl rfl (by simp [Value.cells]) (by omega) ?_
        intro b8 w8 hal8
        have hb8 : Blk w8 b8 46 [.int .i64 ((q + 1 : Nat) : Int), .int .i64 (p : Int), .slice Au nu cu] := by simpa [Value.cells] using hal8.blk
        replace hkc := hkc.keep hal8.kp
        replace hoc := hoc.keep hal8.kp
        replace hsu := hsu.keep hal8.kp
        replace hfu := hfu.keep hal8.kp
        have z8 := hkc.size_le
        repeat refine zz ?_
        refine o_appendF (R := rewR) (M := wc.heap.size) (gi := fu) rfl rfl rfl rfl rfl (by decide) hoc (Blk.src (xs := [(⟨((q + 1 : Nat) : Int), (p : Int), y⟩ : Rwt)]) hb8 (Rows.single (R := rewR) ⟨_, rfl, hsu⟩)) rfl (hfu.mono zc) hdm hown (fun b hb => hfu.ge hb) (by simp only [List.length_cons, List.length_nil]; omega) (by simp only [List.length_cons, List.length_nil]; omega) (by omega) ?_
        intro v9 w9 ho9 hb9 hg9
        replace hkc := hkc.grown hg9 hrow
        repeat refine zz ?_
        exact ⟨(q + 1, v9), ⟨rfl, rfl, rfl, rfl, rfl, find_int rfl (by dsimp only; omega), trivial⟩, ⟨hkc, by dsimp only; omega, _, by dsimp only; rw [rwN, rwAt_some hap, ← List.append_assoc]; exact ho9⟩, by dsimp only; omega⟩
    · simp at hd
      have hq4 : q = 4 := by omega
      subst hq4
      repeat refine zz ?_
      exact ⟨(p + 1, vc), ⟨rfl, rfl, rfl, rfl, trivial⟩, ⟨hkc, by dsimp only; omega, fc, hoc⟩, by dsimp only; omega⟩
  · simp at hc
    have hpe : p = E.length := by omega
    obtain ⟨f, hs, hf⟩ := hoa.sl (by decide)
    repeat refine zz ?_
    exact ret1 rfl rfl ⟨hka, f, by unfold rewr; rw [← hpe]; exact hs, hf⟩

set_option maxHeartbeats 4000000 in
theorem spec_Rewritings_ok {w : World} {v : Value} {E : List Nod} {fp : List Nat} (hx : Sl nodeR w v E fp) (hn : E.length + totN E ≤ 1048576) :
    Run Try.prog 15 [v] w (fun r w' => Keep w w' ∧ ∃ fp, Sl rewR w' r (rewr E) fp ∧ Fresh w.heap.size w' fp) := by
  have hq9 : ∀ p q : Nat, p < E.length → q ≤ 4 → ∀ y, applyR E ((q + 1 : Nat) : Int) (p : Int) = some y → E.length ≤ 9 := fun p q _ _ y h => (expr_small (applyR_expr h).1).1
  obtain ⟨A, n, c, rfl, hnx⟩ := hx.split
  refine Run_intro Try.func15 (by unfold CallOk; kernel_rfl) rfl Try.ntmps15 (Nat.le_of_ble_eq_true rfl) ?_
  simp only [penv, Nat.reduceAdd, Nat.zero_add]
  repeat refine zz ?_
  refine o_buildSlice rfl rfl rfl rfl rfl (by intro p hp; cases hp) (by omega) ?_
  intro bO wO halO
  have hkO := halO.kp
  have zO := halO.b_eq
  have ho1 : OwnF rewR wO w.heap.size 46 (.slice (some ⟨bO, 0, none⟩) 0 0) [] [] := OwnF.made halO.blk (by omega)
  repeat refine zz ?_
  refine W_loop (S := Nat × Value) (fun s => [(0, .slice A n c), (3, s.2), (4, .int .i64 (s.1 : Int))]) (fun s w' => Keep w w' ∧ s.1 ≤ n ∧ ∃ fi, OwnF rewR w' w.heap.size 46 s.2 (rwsN E s.1) fi) (fun s => n - s.1) (0, _) ⟨rfl, rfl, rfl, trivial⟩ ⟨hkO, Nat.zero_le _, [], ho1⟩ ?_
  clear ho1 hkO halO
  rintro ⟨p, va⟩ wa ⟨hka, hp, fa, hoa⟩
  dsimp only at hp hoa ⊢
  repeat refine zz ?_
  refine WL_part rfl rfl (fun hc => ?_) (fun hc => ?_)
  · simp at hc
    have hpn : p < n := by omega
    repeat refine zz ?_
    refine o_call rfl rfl rfl (spec_IsExpression_ok (hx.keep hka) hn) ?_
    rintro _ w1 ⟨rfl, hk1⟩
    replace hka := hka.keep hk1
    replace hoa := hoa.keep hk1
    repeat refine zz ?_
    refine W_cond rfl (fun he => ?_) (fun he => ?_)
    · repeat refine zz ?_
      refine W_loop (S := Nat × Value) (fun s => [(0, .slice A n c), (3, s.2), (4, .int .i64 (p : Int)), (5, .int .i64 ((s.1 + 1 : Nat) : Int))]) (fun s w' => Keep w w' ∧ s.1 ≤ 4 ∧ ∃ fi, OwnF rewR w' w.heap.size 46 s.2 (rwsN E p ++ rwN E p s.1) fi) (fun s => 4 - s.1) (0, va) ⟨rfl, rfl, rfl, rfl, trivial⟩ ⟨hka, Nat.zero_le _, fa, by simpa [rwN] using hoa⟩ ?_
      clear hka hoa
      rintro ⟨q, vc⟩ wc ⟨hkc, hq, fc, hoc⟩
      dsimp only at hq hoc ⊢
      repeat refine zz ?_
      refine W_cond rfl (fun hd => ?_) (fun hd => ?_)
      · simp at hd
        have hq3 : q < 4 := by omega
        repeat refine zz ?_
        refine o_call rfl rfl rfl (spec_ApplyRule_ok (hx.keep hkc) hn ((q + 1 : Nat) : Int) (p : Int)) ?_
        rintro _ wd ⟨hkd, u, fd, rfl, hod⟩
        cases hap : applyR E ((q + 1 : Nat) : Int) (p : Int) with
        | none =>
          repeat refine zz ?_
          exact ⟨(q + 1, vc), ⟨rfl, rfl, rfl, find_int rfl (by dsimp only; omega), trivial⟩, ⟨hkc.keep hkd, by dsimp only; omega, fc, by dsimp only; rw [rwN, rwAt_none hap, List.append_nil]; exact hoc.keep hkd⟩, by dsimp only; omega⟩
        | some y =>
          rw [hap] at hod
          have h9 := hq9 p q (by omega) hq y hap
          have hys := apply_small hap
          have hdm := hoc.fresh.dom
          have hown := fun c hc => (hoc.lt (b := c) hc).2
          have hrow := fun c hc => (hoc.lt (b := c) hc).1
          have hll : (rwsN E p ++ rwN E p q).length ≤ 40 := by have := (rwsN_bd E p).2; have := (rwN_bd E p q).2; rw [List.length_append]; omega
          have zc := hkc.size_le
          replace hkc := hkc.keep hkd
          replace hoc := hoc.keep hkd
          obtain ⟨fu, hsu, hfu⟩ := hod.sl (by decide)
          obtain ⟨Au, nu, cu, rfl, hnu, _⟩ := hod.split
          have ou := hsu.oneCell
          repeat refine zz ?_
          refine WL_pure rfl rfl (o_buildT (cs := [.int .i64 ((q + 1 : Nat) : Int), .int .i64 (p : Int), .slice Au nu cu]) rfl rfl) ?_
          repeat refine zz ?_
          refine o_buildSlice rfl rfl rfl rfl rfl (by simp [Value.cells]) (by omega) ?_
          intro b8 w8 hal8
          have hb8 : Blk w8 b8 46 [.int .i64 ((q + 1 : Nat) : Int), .int .i64 (p : Int), .slice Au nu cu] := by simpa [Value.cells] using hal8.blk
          replace hkc := hkc.keep hal8.kp
          replace hoc := hoc.keep hal8.kp
          replace hsu := hsu.keep hal8.kp
          replace hfu := hfu.keep hal8.kp
          have z8 := hkc.size_le
          repeat refine zz ?_
          refine o_appendF (R := rewR) (M := wc.heap.size) (gi := fu) rfl rfl rfl rfl rfl (by decide) hoc (Blk.src (xs := [(⟨((q + 1 : Nat) : Int), (p : Int), y⟩ : Rwt)]) hb8 (Rows.single (R := rewR) ⟨_, rfl, hsu⟩)) rfl (hfu.mono zc) hdm hown (fun b hb => hfu.ge hb) (by simp only [List.length_cons, List.length_nil]; omega) (by simp only [List.length_cons, List.length_nil]; omega) (by omega) ?_
          intro v9 w9 ho9 hb9 hg9
          replace hkc := hkc.grown hg9 hrow
          repeat refine zz ?_
          exact ⟨(q + 1, v9), ⟨rfl, rfl, rfl, find_int rfl (by dsimp only; omega), trivial⟩, ⟨hkc, by dsimp only; omega, _, by dsimp only; rw [rwN, rwAt_some hap, ← List.append_assoc]; exact ho9⟩, by dsimp only; omega⟩
      · simp at hd
        have hq4 : q = 4 := by omega
        subst hq4
        repeat refine zz ?_
        exact ⟨(p + 1, vc), ⟨rfl, rfl, rfl, trivial⟩, ⟨hkc, by dsimp only; omega, fc, hoc⟩, by dsimp only; omega⟩
    · have hnil : ∀ k, rwsN E k = [] := rw_off he
      obtain ⟨f, hs, hf⟩ := hoa.sl (by decide)
      repeat refine zz ?_
      exact ret1 rfl rfl ⟨hka, f, by unfold rewr; rw [hnil]; rw [hnil] at hs; exact hs, hf⟩
  · simp at hc
    have hpe : p = E.length := by omega
    obtain ⟨f, hs, hf⟩ := hoa.sl (by decide)
    repeat refine zz ?_
    exact ret1 rfl rfl ⟨hka, f, by unfold rewr; rw [← hpe]; exact hs, hf⟩
end Go.E

/-
  Contracts: normal forms, and all rewritings of an expression. Conditions: as stated.
-/
import Derived.Test.YtomkdoppjimhoaaSe
import Derived.Test.YtomkdoppjimhoaaRg
set_option linter.unusedVariables false
set_option linter.unusedSimpArgs false
namespace Go.E
open Go Go.RowKit Go.Proofs
/-- the first of the first three rules from rule r on that applies at a place -/
def ruleK (X : List Nod) (p r : Nat) : Option (List Nod) :=
  if r = 1 then ruleAt X p else if r = 2 then (match applyR X 2 p with
    | some x => some x
    | none => applyR X 3 p) else if r = 3 then applyR X 3 p else none
theorem ruleK_some {X y : List Nod} {p r : Nat} (h1 : 1 ≤ r) (h3 : r ≤ 3) (h : applyR X (r : Int) (p : Int) = some y) : ruleK X p r = some y := by
  rcases (show r = 1 ∨ r = 2 ∨ r = 3 by omega) with rfl | rfl | rfl
  · rw [ruleK, if_pos rfl, ruleAt]
    have h' : applyR X 1 (p : Int) = some y := h
    rw [h']
  · rw [ruleK, if_neg (by omega), if_pos rfl]
    have h' : applyR X 2 (p : Int) = some y := h
    rw [h']
  · rw [ruleK, if_neg (by omega), if_neg (by omega), if_pos rfl]; exact h
theorem ruleK_none {X : List Nod} {p r : Nat} (h1 : 1 ≤ r) (h3 : r ≤ 3) (h : applyR X (r : Int) (p : Int) = none) : ruleK X p (r + 1) = ruleK X p r := by
  rcases (show r = 1 ∨ r = 2 ∨ r = 3 by omega) with rfl | rfl | rfl
  · have h' : applyR X 1 (p : Int) = none := h
    rw [ruleK, if_neg (by omega), if_pos rfl, ruleK, if_pos rfl, ruleAt, h']
    cases applyR X 2 (p : Int) <;> rfl
  · have h' : applyR X 2 (p : Int) = none := h
    rw [ruleK, if_neg (by omega), if_neg (by omega), if_pos rfl, ruleK, if_neg (by omega), if_pos rfl, h']
  · have h' : applyR X 3 (p : Int) = none := h
    rw [ruleK, if_neg (by omega), if_neg (by omega), if_neg (by omega), ruleK, if_neg (by omega), if_neg (by omega), if_pos rfl, h']
theorem ruleK_1 (X : List Nod) (p : Nat) : ruleK X p 1 = ruleAt X p := by rw [ruleK, if_pos rfl]
theorem ruleK_4 {X : List Nod} {p : Nat} {r : Nat} (h : 4 ≤ r) : ruleK X p r = none := by rw [ruleK, if_neg (by omega), if_neg (by omega), if_neg (by omega)]
theorem stepFrom_hit {X Y : List Nod} {p : Nat} (hp : p < X.length) (h : ruleAt X p = some Y) : stepFrom X (X.length - p) p = some Y := by
  obtain ⟨k, hk⟩ : ∃ k, X.length - p = k + 1 := ⟨X.length - p - 1, by omega⟩
  rw [hk, stepFrom, h]
theorem stepFrom_miss {X : List Nod} {p : Nat} (hp : p < X.length) (h : ruleAt X p = none) : stepFrom X (X.length - (p + 1)) (p + 1) = stepFrom X (X.length - p) p := by
  obtain ⟨k, hk⟩ : ∃ k, X.length - p = k + 1 := ⟨X.length - p - 1, by omega⟩
  rw [hk, show X.length - (p + 1) = k by omega, stepFrom, h]
theorem apply_small {X y : List Nod} {r p : Int} (h : applyR X r p = some y) : y.length + totN y ≤ 171 := by
  obtain ⟨_, h2, _, _⟩ := applyR_expr h
  obtain ⟨h3, h4, _⟩ := expr_small h2
  omega
theorem step1_none {X : List Nod} (h : isExpr X = false) : step1 X = none := by
  cases hs : step1 X with
  | none => rfl
  | some y => rw [(step1_ok hs).1] at h; cases h
theorem norm_size {E : List Nod} (h : E.length + totN E ≤ 1048576) : (norm E).length + totN (norm E) ≤ 1048576 := by
  cases he : isExpr E with
  | false => rw [norm, (normN_ok 60 E).2 he]; exact h
  | true =>
    have h1 := ((normN_ok 60 E).1 he).1
    obtain ⟨h3, h4, _⟩ := expr_small h1
    rw [norm]; omega
theorem norm_cnt {E : List Nod} (h : E.length + totN E ≤ 1048576) : nCnt (norm E) ≤ 4194304 := by
  have h1 := norm_size h
  have h2 := nCnt_le (norm E)
  omega
def rwAt (E : List Nod) (p r : Nat) : List Rwt := match applyR E (r : Int) (p : Int) with
  | some y => [⟨(r : Int), (p : Int), y⟩]
  | none => []
def rwN (E : List Nod) (p : Nat) : Nat → List Rwt
  | 0 => []
  | k + 1 => rwN E p k ++ rwAt E p (k + 1)
def rwsN (E : List Nod) : Nat → List Rwt
  | 0 => []
  | n + 1 => rwsN E n ++ rwN E n 4
def rewr (E : List Nod) : List Rwt := rwsN E E.length
theorem rwAt_some {E y : List Nod} {p r : Nat} (h : applyR E (r : Int) (p : Int) = some y) : rwAt E p r = [⟨(r : Int), (p : Int), y⟩] := by rw [rwAt, h]
theorem rwAt_none {E : List Nod} {p r : Nat} (h : applyR E (r : Int) (p : Int) = none) : rwAt E p r = [] := by rw [rwAt, h]
theorem rwAt_bd (E : List Nod) (p r : Nat) : rCnt (rwAt E p r) ≤ 686 ∧ (rwAt E p r).length ≤ 1 := by
  cases h : applyR E (r : Int) (p : Int) with
  | none => rw [rwAt_none h]; simp [rCnt]
  | some y =>
    rw [rwAt_some h]
    have h1 := apply_small h
    have h2 := nCnt_le y
    simp only [rCnt, List.length_cons, List.length_nil]; omega
theorem rwN_bd (E : List Nod) (p : Nat) : ∀ k, rCnt (rwN E p k) ≤ 686 * k ∧ (rwN E p k).length ≤ k
  | 0 => by simp [rwN, rCnt]
  | k + 1 => by
    have h1 := rwN_bd E p k
    have h2 := rwAt_bd E p (k + 1)
    rw [rwN, rCnt_append, List.length_append]; omega
theorem rwsN_bd (E : List Nod) : ∀ n, rCnt (rwsN E n) ≤ 2744 * n ∧ (rwsN E n).length ≤ 4 * n
  | 0 => by simp [rwsN, rCnt]
  | n + 1 => by
    have h1 := rwsN_bd E n
    have h2 := rwN_bd E n 4
    rw [rwsN, rCnt_append, List.length_append]; omega
theorem rw_off {E : List Nod} (h : isExpr E = false) : ∀ n, rwsN E n = []
  | 0 => rfl
  | n + 1 => by
    have ha : ∀ r p : Nat, rwAt E p r = [] := fun r p => rwAt_none (by
      cases hs : applyR E (r : Int) (p : Int) with
      | none => rfl
      | some y => rw [(applyR_expr hs).1] at h; cases h)
    have hk : ∀ k, rwN E n k = [] := fun k => by
      induction k with
      | zero => rfl
      | succ k ih => rw [rwN, ih, ha]; rfl
    rw [rwsN, rw_off h n, hk]; rfl
theorem rewr_bd {E : List Nod} : rCnt (rewr E) ≤ 24696 ∧ (rewr E).length ≤ 36 := by
  cases h : isExpr E with
  | false => rw [rewr, rw_off h]; simp [rCnt]
  | true =>
    have h1 := rwsN_bd E E.length
    have h2 := (expr_small h).1
    rw [rewr]; omega
attribute [local irreducible] W WL WD WE thenE inE retQ PureOp Keep Cell Cells Blk Sl Rows Own Src Fresh
attribute [local irreducible] isExpr applyR partR putR seg st hitR norm ruleK ruleAt step1 stepFrom totN

set_option maxHeartbeats 4000000 in
theorem spec_Normalize_own {w : World} {v : Value} {E : List Nod} {fp : List Nat} (hx : Sl nodeR w v E fp) (hn : E.length + totN E ≤ 1048576) :
    Run Try.prog 9 [v] w (fun r w' => Keep w w' ∧ ∃ fi, OwnF nodeR w' w.heap.size 74 r (norm E) fi) := by
  obtain ⟨A, n, c, rfl, hnx⟩ := hx.split
  refine Run_intro Try.func9 (by unfold CallOk; kernel_rfl) rfl Try.ntmps9 (Nat.le_of_ble_eq_true rfl) ?_
  simp only [penv, Nat.reduceAdd, Nat.zero_add]
  repeat refine zz ?_
  refine o_call rfl rfl rfl (l5Copy_own hx hn) ?_
  rintro v0 w0 ⟨hk0, f0, ho0⟩
  repeat refine zz ?_
  refine W_loop (S := Nat × Value × List Nod) (fun s => [(3, s.2.1), (4, .int .i64 (s.1 : Int))]) (fun s w' => Keep w w' ∧ s.1 ≤ 60 ∧ normN (60 - s.1) s.2.2 = norm E ∧ s.2.2.length + totN s.2.2 ≤ 1048576 ∧ ∃ fi, OwnF nodeR w' w.heap.size 74 s.2.1 s.2.2 fi) (fun s => 60 - s.1) (0, v0, E) ⟨rfl, rfl, trivial⟩ ⟨hk0, Nat.zero_le _, by unfold norm; rfl, hn, f0, ho0⟩ ?_
  rintro ⟨k, va, X⟩ wa ⟨hka, hk60, hnm, hnX, fa, hoa⟩
  dsimp only at hk60 hnm hnX hoa ⊢
  have hza := hka.size_le
  obtain ⟨fs, hsa, _⟩ := hoa.sl (by decide)
  repeat refine zz ?_
  refine WL_part rfl rfl (fun hq => ?_) (fun hq => ?_)
  · simp at hq
    have hk : k < 60 := by omega
    repeat refine zz ?_
    refine o_call rfl rfl rfl (spec_IsExpression_ok hsa hnX) ?_
    rintro _ w1 ⟨rfl, hk1⟩
    have hz1 := hk1.size_le
    replace hka := hka.keep hk1
    replace hoa := hoa.keep hk1
    repeat refine zz ?_
    refine W_cond rfl (fun he => ?_) (fun he => ?_)
    · repeat refine zz ?_
      refine W_loop (S := Nat × Value × Bool × List Nod) (fun s => [(3, s.2.1), (4, .int .i64 (k : Int)), (5, .bool s.2.2.1), (6, .int .i64 (s.1 : Int))]) (fun s w' => Keep w w' ∧ s.1 ≤ X.length ∧ (s.2.2.1 = false → s.2.2.2 = X ∧ stepFrom X (X.length - s.1) s.1 = step1 X) ∧ (s.2.2.1 = true → step1 X = some s.2.2.2) ∧ s.2.2.2.length + totN s.2.2.2 ≤ 1048576 ∧ ∃ fi, OwnF nodeR w' w.heap.size 74 s.2.1 s.2.2.2 fi) (fun s => X.length - s.1) (0, va, false, X) ⟨rfl, rfl, rfl, rfl, trivial⟩ ⟨hka, Nat.zero_le _, fun _ => ⟨rfl, by unfold step1; rfl⟩, fun h => (by cases h), hnX, fa, hoa⟩ ?_
      clear hka hoa hsa hk1
      rintro ⟨p, vb, ch, Y⟩ wb ⟨hkb, hpX, hch0, hch1, hnY, fb, hob⟩
      dsimp only at hpX hch0 hch1 hnY hob ⊢
      obtain ⟨Ab, nb, cb, rfl, hnb, _⟩ := hob.split
      cases ch with
      | true =>
        have hst := hch1 rfl
        repeat refine zz ?_
        refine WL_part rfl rfl (fun hq2 => ?_) (fun hq2 => ?_)
        · repeat refine zz ?_
          exact ⟨(k + 1, _, Y), ⟨rfl, rfl, trivial⟩, ⟨hkb, by dsimp only; omega, by dsimp only; rw [← hnm, show 60 - k = (60 - (k + 1)) + 1 by omega, normN_some hst], hnY, fb, hob⟩, by dsimp only; omega⟩
        · repeat refine zz ?_
          exact ⟨(k + 1, _, Y), ⟨rfl, rfl, trivial⟩, ⟨hkb, by dsimp only; omega, by dsimp only; rw [← hnm, show 60 - k = (60 - (k + 1)) + 1 by omega, normN_some hst], hnY, fb, hob⟩, by dsimp only; omega⟩
      | false =>
        obtain ⟨rfl, hsf⟩ := hch0 rfl
        clear hch0 hch1
        repeat refine zz ?_
        refine WL_part rfl rfl (fun hq2 => ?_) (fun hq2 => ?_)
        · simp at hq2
          have hpl : p < Y.length := by omega
          repeat refine zz ?_
          refine W_loop (S := Nat × Value × Bool × List Nod) (fun s => [(3, s.2.1), (4, .int .i64 (k : Int)), (5, .bool s.2.2.1), (6, .int .i64 (p : Int)), (7, .int .i64 (s.1 : Int))]) (fun s w' => Keep w w' ∧ (1 ≤ s.1 ∧ s.1 ≤ 4) ∧ (s.2.2.1 = false → s.2.2.2 = Y ∧ ruleK Y p s.1 = ruleAt Y p) ∧ (s.2.2.1 = true → ruleAt Y p = some s.2.2.2) ∧ s.2.2.2.length + totN s.2.2.2 ≤ 1048576 ∧ ∃ fi, OwnF nodeR w' w.heap.size 74 s.2.1 s.2.2.2 fi) (fun s => 4 - s.1) (1, _, false, Y) ⟨rfl, rfl, rfl, rfl, rfl, trivial⟩ ⟨hkb, ⟨Nat.le_refl _, by dsimp only; omega⟩, fun _ => ⟨rfl, ruleK_1 _ _⟩, fun h => (by cases h), hnY, fb, hob⟩ ?_
          clear hkb hob hnb
          rintro ⟨r, vc, ch, Z⟩ wc ⟨hkc, ⟨hr1, hr4⟩, hch0, hch1, hnZ, fc, hoc⟩
          dsimp only at hr1 hr4 hch0 hch1 hnZ hoc ⊢
          obtain ⟨Ac, nc, cc, rfl, hnc, _⟩ := hoc.split
          cases ch with
          | true =>
            have hst := stepFrom_hit hpl (hch1 rfl)
            rw [hsf] at hst
            repeat refine zz ?_
            refine WL_part rfl rfl (fun hq3 => ?_) (fun hq3 => ?_)
            · repeat refine zz ?_
              exact ⟨(p + 1, _, true, Z), ⟨rfl, rfl, rfl, rfl, trivial⟩, ⟨hkc, by dsimp only; omega, fun h => (by cases h), fun _ => hst, hnZ, fc, hoc⟩, by dsimp only; omega⟩
            · repeat refine zz ?_
              exact ⟨(p + 1, _, true, Z), ⟨rfl, rfl, rfl, rfl, trivial⟩, ⟨hkc, by dsimp only; omega, fun h => (by cases h), fun _ => hst, hnZ, fc, hoc⟩, by dsimp only; omega⟩
          | false =>
            obtain ⟨rfl, hrk⟩ := hch0 rfl
            clear hch0 hch1
            repeat refine zz ?_
            refine WL_part rfl rfl (fun hq3 => ?_) (fun hq3 => ?_)
            · simp at hq3
              have hr3 : r ≤ 3 := by omega
              obtain ⟨fz, hsc, _⟩ := hoc.sl (by decide)
              repeat refine zz ?_
              refine o_call rfl rfl rfl (spec_ApplyRule_ok hsc hnZ (r : Int) (p : Int)) ?_
              rintro _ wd ⟨hkd, u, fd, rfl, hod⟩
              have hzc := hkc.size_le
              cases hap : applyR Z (r : Int) (p : Int) with
              | none =>
                repeat refine zz ?_
                exact ⟨(r + 1, _, false, Z), ⟨rfl, rfl, rfl, rfl, rfl, trivial⟩, ⟨hkc.keep hkd, by dsimp only; omega, fun _ => ⟨rfl, by dsimp only; rw [ruleK_none hr1 hr3 hap]; exact hrk⟩, fun h => (by cases h), hnZ, fc, hoc.keep hkd⟩, by dsimp only; omega⟩
              | some y =>
                rw [hap] at hod
                have hys := apply_small hap
                repeat refine zz ?_
                exact ⟨(r + 1, _, true, y), ⟨rfl, rfl, rfl, rfl, rfl, trivial⟩, ⟨hkc.keep hkd, by dsimp only; omega, fun h => (by cases h), fun _ => by dsimp only; rw [← hrk, ruleK_some hr1 hr3 hap], by dsimp only; omega, fd, hod.low hzc⟩, by dsimp only; omega⟩
            · simp at hq3
              have hr4' : r = 4 := by omega
              have hno : ruleAt Z p = none := by rw [← hrk, ruleK_4 (by omega)]
              repeat refine zz ?_
              exact ⟨(p + 1, _, false, Z), ⟨rfl, rfl, rfl, rfl, trivial⟩, ⟨hkc, by dsimp only; omega, fun _ => ⟨rfl, by dsimp only; rw [stepFrom_miss hpl hno]; exact hsf⟩, fun h => (by cases h), hnZ, fc, hoc⟩, by dsimp only; omega⟩
        · simp at hq2
          have hpe : p = Y.length := by omega
          have hst : step1 Y = none := by rw [← hsf, hpe, Nat.sub_self]; unfold stepFrom; rfl
          repeat refine zz ?_
          exact ret1 rfl rfl ⟨hkb, fb, by rw [← hnm, normN_none hst]; exact hob⟩
    · have hxX : normN (60 - k) X = X := (normN_ok _ X).2 he
      repeat refine zz ?_
      exact ret1 rfl rfl ⟨hka, fa, by rw [← hnm, hxX]; exact hoa⟩
  · simp at hq
    have hk : k = 60 := by omega
    subst hk
    repeat refine zz ?_
    exact ret1 rfl rfl ⟨hka, fa, by rw [← hnm, Nat.sub_self]; exact hoa⟩

set_option maxHeartbeats 4000000 in
theorem impl_Normalize_own {w : World} {v : Value} {E : List Nod} {fp : List Nat} (hx : Sl nodeR w v E fp) (hn : E.length + totN E ≤ 1048576) :
    Run Try.prog 11 [v] w (fun r w' => Keep w w' ∧ ∃ fi, OwnF nodeR w' w.heap.size 74 r (norm E) fi) := by
  obtain ⟨A, n, c, rfl, hnx⟩ := hx.split
  refine Run_intro Try.func11 (by unfold CallOk; kernel_rfl) rfl Try.ntmps11 (Nat.le_of_ble_eq_true rfl) ?_
  simp only [penv, Nat.reduceAdd, Nat.zero_add]
  repeat refine zz ?_
  refine o_call rfl rfl rfl (copyNodes_own hx hn) ?_
  rintro v0 w0 ⟨hk0, f0, ho0⟩
  repeat refine zz ?_
  refine W_loop (S := Nat × Value × List Nod) (fun s => [(3, s.2.1), (9, .int .i64 (s.1 : Int))]) (fun s w' => Keep w w' ∧ s.1 ≤ 60 ∧ normN (60 - s.1) s.2.2 = norm E ∧ s.2.2.length + totN s.2.2 ≤ 1048576 ∧ ∃ fi, OwnF nodeR w' w.heap.size 74 s.2.1 s.2.2 fi) (fun s => 60 - s.1) (0, v0, E) ⟨rfl, rfl, trivial⟩ ⟨hk0, Nat.zero_le _, by unfold norm; rfl, hn, f0, ho0⟩ ?_
  rintro ⟨k, va, X⟩ wa ⟨hka, hk60, hnm, hnX, fa, hoa⟩
  dsimp only at hk60 hnm hnX hoa ⊢
  repeat refine zz ?_
  refine W_cond rfl (fun hq => ?_) (fun hq => ?_)
  · simp at hq
    have hk : k < 60 := by omega
    repeat refine zz ?_
    refine W_loop (S := Nat × Value × Bool × List Nod) (fun s => [(3, s.2.1), (9, .int .i64 (k : Int)), (4, .bool s.2.2.1), (5, .int .i64 (s.1 : Int))]) (fun s w' => Keep w w' ∧ s.1 ≤ X.length ∧ (s.2.2.1 = false → s.2.2.2 = X ∧ stepFrom X (X.length - s.1) s.1 = step1 X) ∧ (s.2.2.1 = true → step1 X = some s.2.2.2) ∧ s.2.2.2.length + totN s.2.2.2 ≤ 1048576 ∧ ∃ fi, OwnF nodeR w' w.heap.size 74 s.2.1 s.2.2.2 fi) (fun s => X.length - s.1) (0, va, false, X) ⟨rfl, rfl, rfl, rfl, trivial⟩ ⟨hka, Nat.zero_le _, fun _ => ⟨rfl, by unfold step1; rfl⟩, fun h => (by cases h), hnX, fa, hoa⟩ ?_
    clear hka hoa
    rintro ⟨p, vb, ch, Y⟩ wb ⟨hkb, hpX, hch0, hch1, hnY, fb, hob⟩
    dsimp only at hpX hch0 hch1 hnY hob ⊢
    obtain ⟨Ab, nb, cb, rfl, hnb, _⟩ := hob.split
    cases ch with
    | true =>
      have hst := hch1 rfl
      repeat refine zz ?_
      refine WL_part rfl rfl (fun hq2 => ?_) (fun hq2 => ?_)
      · repeat refine zz ?_
        exact ⟨(k + 1, _, Y), ⟨rfl, rfl, trivial⟩, ⟨hkb, by dsimp only; omega, by dsimp only; rw [← hnm, show 60 - k = (60 - (k + 1)) + 1 by omega, normN_some hst], hnY, fb, hob⟩, by dsimp only; omega⟩
      · repeat refine zz ?_
        exact ⟨(k + 1, _, Y), ⟨rfl, rfl, trivial⟩, ⟨hkb, by dsimp only; omega, by dsimp only; rw [← hnm, show 60 - k = (60 - (k + 1)) + 1 by omega, normN_some hst], hnY, fb, hob⟩, by dsimp only; omega⟩
    | false =>
      obtain ⟨rfl, hsf⟩ := hch0 rfl
      clear hch0 hch1
      repeat refine zz ?_
      refine WL_part rfl rfl (fun hq2 => ?_) (fun hq2 => ?_)
      · simp at hq2
        have hpl : p < Y.length := by omega
        repeat refine zz ?_
        refine W_loop (S := Nat × Value × Bool × List Nod) (fun s => [(3, s.2.1), (9, .int .i64 (k : Int)), (4, .bool s.2.2.1), (5, .int .i64 (p : Int)), (6, .int .i64 (s.1 : Int))]) (fun s w' => Keep w w' ∧ (1 ≤ s.1 ∧ s.1 ≤ 4) ∧ (s.2.2.1 = false → s.2.2.2 = Y ∧ ruleK Y p s.1 = ruleAt Y p) ∧ (s.2.2.1 = true → ruleAt Y p = some s.2.2.2) ∧ s.2.2.2.length + totN s.2.2.2 ≤ 1048576 ∧ ∃ fi, OwnF nodeR w' w.heap.size 74 s.2.1 s.2.2.2 fi) (fun s => 4 - s.1) (1, _, false, Y) ⟨rfl, rfl, rfl, rfl, rfl, trivial⟩ ⟨hkb, ⟨Nat.le_refl _, by dsimp only; omega⟩, fun _ => ⟨rfl, ruleK_1 _ _⟩, fun h => (by cases h), hnY, fb, hob⟩ ?_
        clear hkb hob hnb
        rintro ⟨r, vc, ch, Z⟩ wc ⟨hkc, ⟨hr1, hr4⟩, hch0, hch1, hnZ, fc, hoc⟩
        dsimp only at hr1 hr4 hch0 hch1 hnZ hoc ⊢
        obtain ⟨Ac, nc, cc, rfl, hnc, _⟩ := hoc.split
        cases ch with
        | true =>
          have hst := stepFrom_hit hpl (hch1 rfl)
          rw [hsf] at hst
          repeat refine zz ?_
          refine WL_part rfl rfl (fun hq3 => ?_) (fun hq3 => ?_)
          · repeat refine zz ?_
            exact ⟨(p + 1, _, true, Z), ⟨rfl, rfl, rfl, rfl, trivial⟩, ⟨hkc, by dsimp only; omega, fun h => (by cases h), fun _ => hst, hnZ, fc, hoc⟩, by dsimp only; omega⟩
          · repeat refine zz ?_
            exact ⟨(p + 1, _, true, Z), ⟨rfl, rfl, rfl, rfl, trivial⟩, ⟨hkc, by dsimp only; omega, fun h => (by cases h), fun _ => hst, hnZ, fc, hoc⟩, by dsimp only; omega⟩
        | false =>
          obtain ⟨rfl, hrk⟩ := hch0 rfl
          clear hch0 hch1
          repeat refine zz ?_
          refine WL_part rfl rfl (fun hq3 => ?_) (fun hq3 => ?_)
          · simp at hq3
            have hr3 : r ≤ 3 := by omega
            obtain ⟨fz, hsc, _⟩ := hoc.sl (by decide)
            repeat refine zz ?_
            refine o_call rfl rfl rfl (impl_ApplyRule_ok hsc hnZ (r : Int) (p : Int)) ?_
            rintro _ wd ⟨hkd, u, fd, rfl, hod⟩
            have hzc := hkc.size_le
            cases hap : applyR Z (r : Int) (p : Int) with
            | none =>
              rw [hap] at hod
              repeat refine zz ?_
              exact ⟨(r + 1, _, false, Z), ⟨rfl, rfl, rfl, rfl, rfl, trivial⟩, ⟨hkc.keep hkd, by dsimp only; omega, fun _ => ⟨rfl, by dsimp only; rw [ruleK_none hr1 hr3 hap]; exact hrk⟩, fun h => (by cases h), hnZ, fd, hod.low hzc⟩, by dsimp only; omega⟩
            | some y =>
              rw [hap] at hod
              have hys := apply_small hap
              repeat refine zz ?_
              exact ⟨(r + 1, _, true, y), ⟨rfl, rfl, rfl, rfl, rfl, trivial⟩, ⟨hkc.keep hkd, by dsimp only; omega, fun h => (by cases h), fun _ => by dsimp only; rw [← hrk, ruleK_some hr1 hr3 hap], by dsimp only; omega, fd, hod.low hzc⟩, by dsimp only; omega⟩
          · simp at hq3
            have hr4' : r = 4 := by omega
            have hno : ruleAt Z p = none := by rw [← hrk, ruleK_4 (by omega)]
            repeat refine zz ?_
            exact ⟨(p + 1, _, false, Z), ⟨rfl, rfl, rfl, rfl, trivial⟩, ⟨hkc, by dsimp only; omega, fun _ => ⟨rfl, by dsimp only; rw [stepFrom_miss hpl hno]; exact hsf⟩, fun h => (by cases h), hnZ, fc, hoc⟩, by dsimp only; omega⟩
      · simp at hq2
        have hpe : p = Y.length := by omega
        have hst : step1 Y = none := by rw [← hsf, hpe, Nat.sub_self]; unfold stepFrom; rfl
        repeat refine zz ?_
        exact ret1 rfl rfl ⟨hkb, fb, by rw [← hnm, normN_none hst]; exact hob⟩
  · simp at hq
    have hk : k = 60 := by omega
    subst hk
    repeat refine zz ?_
    exact ret1 rfl rfl ⟨hka, fa, by rw [← hnm, Nat.sub_self]; exact hoa⟩
theorem spec_NormalizeExpression_ok {w : World} {v : Value} {E : List Nod} {fp : List Nat} (hx : Sl nodeR w v E fp) (hn : E.length + totN E ≤ 1048576) :
    Run Try.prog 9 [v] w (fun r w' => Keep w w' ∧ ∃ fp, Sl nodeR w' r (norm E) fp ∧ Fresh w.heap.size w' fp) :=
  (spec_Normalize_own hx hn).mono fun _ _ ⟨h1, _, h2⟩ => ⟨h1, h2.sl (by decide)⟩
theorem impl_NormalizeExpression_ok {w : World} {v : Value} {E : List Nod} {fp : List Nat} (hx : Sl nodeR w v E fp) (hn : E.length + totN E ≤ 1048576) :
    Run Try.prog 11 [v] w (fun r w' => Keep w w' ∧ ∃ fp, Sl nodeR w' r (norm E) fp ∧ Fresh w.heap.size w' fp) :=
  (impl_Normalize_own hx hn).mono fun _ _ ⟨h1, _, h2⟩ => ⟨h1, h2.sl (by decide)⟩
end Go.E

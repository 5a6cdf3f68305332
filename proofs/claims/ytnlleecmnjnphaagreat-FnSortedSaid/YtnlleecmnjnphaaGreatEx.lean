/-
  Contracts: equal expressions. Conditions: none.
-/
import Derived.Test.YtnlleecmnjnphaaGreatGw
set_option linter.unusedVariables false
set_option linter.unusedSimpArgs false
namespace Go.E
open Go Go.RowKit Go.Proofs
attribute [local irreducible] W WL WD WE thenE inE retQ PureOp Keep Cell Cells Blk Sl Rows Own Src Fresh

theorem l2Ints_ok {w : World} {v u : Value} {xs ys : List Int} {fp gp : List Nat} (hx : Sl intR w v xs fp) (hy : Sl intR w u ys gp) :
    Run Tryz.prog 61 [v, u] w (fun r w' => r = .bool (decide (xs = ys)) ∧ Keep w w') := by
  have hn := hx.le
  obtain ⟨A, n, c, rfl, hnx⟩ := hx.split
  obtain ⟨A2, m, c2, rfl, hmy⟩ := hy.split
  refine Run_intro Tryz.func61 (by unfold CallOk; kernel_rfl) rfl Tryz.ntmps61 (Nat.le_of_ble_eq_true rfl) ?_
  simp only [penv, Nat.reduceAdd, Nat.zero_add]
  repeat refine zz ?_
  refine W_cond rfl (fun hc => ?_) (fun hc => ?_)
  · repeat refine zz ?_
    simp at hc
    refine ret1 rfl rfl ⟨?_, Keep.refl _⟩
    have : xs ≠ ys := fun e => by subst e; omega
    simp [this]
  · simp at hc
    have hnm : n = m := by omega
    subst hnm
    repeat refine zz ?_
    refine W_loop (S := Nat) (fun k => [(0, .slice A n c), (1, .slice A2 n c2), (5, .int .i64 (k : Int))]) (fun k w' => Keep w w' ∧ k ≤ n ∧ ∀ i, i < k → gi xs (i : Int) = gi ys (i : Int)) (fun k => n - k) 0 ⟨rfl, rfl, rfl, trivial⟩ ⟨Keep.refl _, Nat.zero_le _, fun i hi => absurd hi (by omega)⟩ ?_
    rintro k w1 ⟨hk1, hk, hall⟩
    replace hx := hx.keep hk1
    replace hy := hy.keep hk1
    repeat refine zz ?_
    refine W_cond rfl (fun hc => ?_) (fun hc => ?_)
    · have hkn : k < n := by simp at hc; omega
      obtain ⟨hA, hck⟩ := hx.getI (i := (k : Int)) (by omega) (by omega)
      obtain ⟨hA2, hck2⟩ := hy.getI (i := (k : Int)) (by omega) (by omega)
      repeat refine zz ?_
      refine W_quiet (Keep w1) (by kernel_rfl) (by kernel_rfl) (Keep.drew _) ?_
      repeat refine qq ?_
      intro w2 hk2 
      repeat refine zz ?_
      refine W_cond rfl (fun hd => ?_) (fun hd => ?_)
      · repeat refine zz ?_
        simp at hd
        refine ret1 rfl rfl ⟨?_, hk1.keep hk2⟩
        have : xs ≠ ys := fun e => by subst e; simp at hd
        simp [this]
      · simp at hd
        repeat refine zz ?_
        exact ⟨k + 1, ⟨rfl, rfl, rfl, trivial⟩, ⟨hk1.keep hk2, by omega, fun i hi => by
          rcases Nat.lt_or_ge i k with h1 | h1
          · exact hall i h1
          · have : i = k := by omega
            subst this; exact hd⟩, by omega⟩
    · simp at hc
      obtain rfl : k = n := by omega
      repeat refine zz ?_
      refine ret1 rfl rfl ⟨?_, hk1⟩
      have : xs = ys := gi_ext (by omega) (fun i hi => hall i (by omega))
      simp [this]

theorem l5SamePairs_ok {w : World} {v u : Value} {xs ys : List (Int × Int)} {fp gp : List Nat} (hx : Sl pairR w v xs fp) (hy : Sl pairR w u ys gp) :
    Run Tryz.prog 62 [v, u] w (fun r w' => r = .bool (decide (xs = ys)) ∧ Keep w w') := by
  have hn := hx.le
  obtain ⟨A, n, c, rfl, hnx⟩ := hx.split
  obtain ⟨A2, m, c2, rfl, hmy⟩ := hy.split
  refine Run_intro Tryz.func62 (by unfold CallOk; kernel_rfl) rfl Tryz.ntmps62 (Nat.le_of_ble_eq_true rfl) ?_
  simp only [penv, Nat.reduceAdd, Nat.zero_add]
  repeat refine zz ?_
  refine W_cond rfl (fun hc => ?_) (fun hc => ?_)
  · repeat refine zz ?_
    simp at hc
    refine ret1 rfl rfl ⟨?_, Keep.refl _⟩
    have : xs ≠ ys := fun e => by subst e; omega
    simp [this]
  · simp at hc
    have hnm : n = m := by omega
    subst hnm
    repeat refine zz ?_
    refine W_loop (S := Nat) (fun k => [(0, .slice A n c), (1, .slice A2 n c2), (5, .int .i64 (k : Int))]) (fun k w' => Keep w w' ∧ k ≤ n ∧ ∀ i, i < k → gi xs (i : Int) = gi ys (i : Int)) (fun k => n - k) 0 ⟨rfl, rfl, rfl, trivial⟩ ⟨Keep.refl _, Nat.zero_le _, fun i hi => absurd hi (by omega)⟩ ?_
    rintro k w1 ⟨hk1, hk, hall⟩
    replace hx := hx.keep hk1
    replace hy := hy.keep hk1
    repeat refine zz ?_
    refine W_cond rfl (fun hc => ?_) (fun hc => ?_)
    · have hkn : k < n := by simp at hc; omega
      obtain ⟨hA, hck⟩ := pair_get hx (i := (k : Int)) (by omega) (by omega)
      obtain ⟨hA2, hck2⟩ := pair_get hy (i := (k : Int)) (by omega) (by omega)
      repeat refine zz ?_
      refine W_quiet (Keep w1) (by kernel_rfl) (by kernel_rfl) (Keep.drew _) ?_
      repeat refine qq ?_
      refine WQ_pure rfl rfl (fun _ _ => o_neqP rfl rfl) ?_
      repeat refine qq ?_
      intro w2 hk2 
      repeat refine zz ?_
      refine W_cond rfl (fun hd => ?_) (fun hd => ?_)
      · repeat refine zz ?_
        simp at hd
        refine ret1 rfl rfl ⟨?_, hk1.keep hk2⟩
        have : xs ≠ ys := fun e => by subst e; simp at hd
        simp [this]
      · simp at hd
        repeat refine zz ?_
        exact ⟨k + 1, ⟨rfl, rfl, rfl, trivial⟩, ⟨hk1.keep hk2, by omega, fun i hi => by
          rcases Nat.lt_or_ge i k with h1 | h1
          · exact hall i h1
          · have : i = k := by omega
            subst this; exact Prod.ext hd.1 hd.2⟩, by omega⟩
    · simp at hc
      obtain rfl : k = n := by omega
      repeat refine zz ?_
      refine ret1 rfl rfl ⟨?_, hk1⟩
      have : xs = ys := gi_ext (by omega) (fun i hi => hall i (by omega))
      simp [this]

theorem l5SameWish_ok {w : World} {v1 u1 v2 u2 : Value} {x y : Wsh} {f1 g1 f2 g2 : List Nat} (hx : Sl intR w v1 x.list f1) (hx2 : Sl pairR w u1 x.pairs g1) (hy : Sl intR w v2 y.list f2) (hy2 : Sl pairR w u2 y.pairs g2) :
    Run Tryz.prog 42 [.agg #[.int .i64 x.kind, .int .i64 x.field, .int .i64 x.value, v1, u1], .agg #[.int .i64 y.kind, .int .i64 y.field, .int .i64 y.value, v2, u2]] w (fun r w' => r = .bool (decide (x = y)) ∧ Keep w w') := by
  refine Run_intro Tryz.func42 (by unfold CallOk; kernel_rfl) rfl Tryz.ntmps42 (Nat.le_of_ble_eq_true rfl) ?_
  simp only [penv, Nat.reduceAdd, Nat.zero_add]
  repeat refine zz ?_
  refine o_boxS rfl rfl rfl ?_
  intro b1 w1 hal1
  have hb1 := hal1.blk
  have hk := hal1.kp
  replace hx := hx.keep hal1.kp
  replace hx2 := hx2.keep hal1.kp
  replace hy := hy.keep hal1.kp
  replace hy2 := hy2.keep hal1.kp
  repeat refine zz ?_
  refine o_boxS rfl rfl rfl ?_
  intro b2 w2 hal2
  have hb2 := hal2.blk
  replace hx := hx.keep hal2.kp
  replace hx2 := hx2.keep hal2.kp
  replace hy := hy.keep hal2.kp
  replace hy2 := hy2.keep hal2.kp
  replace hb1 := hb1.keep hal2.kp
  replace hk := hk.keep hal2.kp
  repeat refine zz ?_
  refine WL_part rfl rfl (fun hc => ?_) (fun hc => ?_)
  · simp at hc
    repeat refine zz ?_
    refine WL_part rfl rfl (fun hc2 => ?_) (fun hc2 => ?_)
    · simp at hc2
      repeat refine zz ?_
      refine WL_part rfl rfl (fun hc3 => ?_) (fun hc3 => ?_)
      · simp at hc3
        repeat refine zz ?_
        refine o_call rfl rfl rfl (l2Ints_ok hx hy) ?_
        rintro _ w3 ⟨rfl, hk3⟩
        replace hk := hk.keep hk3
        replace hb1 := hb1.keep hk3
        replace hb2 := hb2.keep hk3
        replace hx2 := hx2.keep hk3
        replace hy2 := hy2.keep hk3
        repeat refine zz ?_
        refine WL_part rfl rfl (fun hd => ?_) (fun hd => ?_)
        · simp at hd
          repeat refine zz ?_
          refine o_call rfl rfl rfl (l5SamePairs_ok hx2 hy2) ?_
          rintro _ w4 ⟨rfl, hk4⟩
          replace hk := hk.keep hk4
          repeat refine zz ?_
          refine ret1 rfl rfl ⟨?_, hk⟩
          congr 1
          rw [decide_eq_decide]
          constructor
          · intro h; cases x; cases y; simp_all
          · intro h; rw [h]
        · simp at hd
          repeat refine zz ?_
          exact ret1 rfl rfl ⟨by rw [decide_eq_false]; exact fun e => hd (by rw [e]), hk⟩
      · simp at hc3
        repeat refine zz ?_
        exact ret1 rfl rfl ⟨by rw [decide_eq_false]; exact fun e => hc3 (by rw [e]), hk⟩
    · simp at hc2
      repeat refine zz ?_
      exact ret1 rfl rfl ⟨by rw [decide_eq_false]; exact fun e => hc2 (by rw [e]), hk⟩
  · simp at hc
    repeat refine zz ?_
    exact ret1 rfl rfl ⟨by rw [decide_eq_false]; exact fun e => hc (by rw [e]), hk⟩

theorem spec_EqualExpressions_ok {w : World} {v u : Value} {xs ys : List Nod} {fp gp : List Nat} (hx : Sl nodeR w v xs fp) (hy : Sl nodeR w u ys gp) :
    Run Tryz.prog 13 [v, u] w (fun r w' => r = .bool (decide (xs = ys)) ∧ Keep w w') := by
  have hn := hx.le
  obtain ⟨A, n, c, rfl, hnx⟩ := hx.split
  obtain ⟨A2, m, c2, rfl, hmy⟩ := hy.split
  refine Run_intro Tryz.func13 (by unfold CallOk; kernel_rfl) rfl Tryz.ntmps13 (Nat.le_of_ble_eq_true rfl) ?_
  simp only [penv, Nat.reduceAdd, Nat.zero_add]
  repeat refine zz ?_
  refine W_cond rfl (fun hc => ?_) (fun hc => ?_)
  · repeat refine zz ?_
    simp at hc
    refine ret1 rfl rfl ⟨?_, Keep.refl _⟩
    have : xs ≠ ys := fun e => by subst e; omega
    simp [this]
  · simp at hc
    have hnm : n = m := by omega
    subst hnm
    repeat refine zz ?_
    refine W_loop (S := Nat) (fun k => [(0, .slice A n c), (1, .slice A2 n c2), (5, .int .i64 (k : Int))]) (fun k w' => Keep w w' ∧ k ≤ n ∧ ∀ i, i < k → gi xs (i : Int) = gi ys (i : Int)) (fun k => n - k) 0 ⟨rfl, rfl, rfl, trivial⟩ ⟨Keep.refl _, Nat.zero_le _, fun i hi => absurd hi (by omega)⟩ ?_
    rintro k w1 ⟨hk1, hk, hall⟩
    replace hx := hx.keep hk1
    replace hy := hy.keep hk1
    repeat refine zz ?_
    refine W_cond rfl (fun hc => ?_) (fun hc => ?_)
    · have hkn : k < n := by simp at hc; omega
      obtain ⟨hA, va, ua, fa1, ga1, hck, hva, hua, _⟩ := node_get hx (i := (k : Int)) (by omega) (by omega)
      obtain ⟨hA2, vb, ub, fb1, gb1, hck2, hvb, hub, _⟩ := node_get hy (i := (k : Int)) (by omega) (by omega)
      repeat refine zz ?_
      refine W_quiet (Keep w1) (by kernel_rfl) (by kernel_rfl) (Keep.drew _) ?_
      repeat refine qq ?_
      refine WQ_part rfl rfl (fun hop => ?_) (fun hop => ?_)
      · simp at hop
        repeat refine qq ?_
        intro w2 hk2 
        repeat refine zz ?_
        refine ret1 rfl rfl ⟨?_, hk1.keep hk2⟩
        have : xs ≠ ys := fun e => by subst e; exact hop rfl
        simp [this]
      simp at hop
      repeat refine qq ?_
      refine WQ_call rfl rfl rfl (fun w' hw' => (l5SameWish_ok (hva.keep hw') (hua.keep hw') (hvb.keep hw') (hub.keep hw')).kk hw') ?_
      repeat refine qq ?_
      intro w2 hk2 
      repeat refine zz ?_
      refine W_cond rfl (fun hd => ?_) (fun hd => ?_)
      · repeat refine zz ?_
        simp at hd
        refine ret1 rfl rfl ⟨?_, hk1.keep hk2⟩
        have : xs ≠ ys := fun e => by subst e; exact hd rfl
        simp [this]
      · simp at hd
        repeat refine zz ?_
        exact ⟨k + 1, ⟨rfl, rfl, rfl, trivial⟩, ⟨hk1.keep hk2, by omega, fun i hi => by
          rcases Nat.lt_or_ge i k with h1 | h1
          · exact hall i h1
          · have : i = k := by omega
            subst this
            have e1 : ∀ a b : Nod, a.op = b.op → a.wish = b.wish → a = b := by intro a b; cases a; cases b; simp_all
            exact e1 _ _ hop hd⟩, by omega⟩
    · simp at hc
      obtain rfl : k = n := by omega
      repeat refine zz ?_
      refine ret1 rfl rfl ⟨?_, hk1⟩
      have : xs = ys := gi_ext (by omega) (fun i hi => hall i (by omega))
      simp [this]

end Go.E

/-
  Contracts: equal expressions. Conditions: none.
-/
import Derived.Test.YtomkdoppjimhoaaGw
set_option linter.unusedVariables false
set_option linter.unusedSimpArgs false
namespace Go.E
open Go Go.RowKit Go.Proofs
attribute [local irreducible] W WL WD WE thenE inE retQ PureOp Keep Cell Cells Blk Sl Rows Own Src Fresh

theorem l2Ints_ok {w : World} {v u : Value} {xs ys : List Int} {fp gp : List Nat} (hx : Sl intR w v xs fp) (hy : Sl intR w u ys gp) :
    Run Try.prog 114 [v, u] w (fun r w' => r = .bool (decide (xs = ys)) ∧ Keep w w') := by
  have hn := hx.le
  obtain ⟨A, n, c, rfl, hnx⟩ := hx.split
  obtain ⟨A2, m, c2, rfl, hmy⟩ := hy.split
  refine Run_intro Try.func114 (by unfold CallOk; kernel_rfl) rfl Try.ntmps114 (Nat.le_of_ble_eq_true rfl) ?_
  simp only [penv, Nat.reduceAdd, Nat.zero_add]
  repeat refine zz ?_
  refine W_cond rfl (fun hc => ?_) (fun hc => ?_)
  · repeat refine zz ?_
    simp at hc
    refine ret1 rfl rfl ⟨?_, Keep.refl _⟩
    have : xs ≠ ys := fun e => by subst e; omega
    simp [this]
  · simp at hc
    have hnm : n = m := by omega
    subst hnm
    repeat refine zz ?_
    refine W_loop (S := Nat) (fun k => [(0, .slice A n c), (1, .slice A2 n c2), (5, .int .i64 (k : Int))]) (fun k w' => Keep w w' ∧ k ≤ n ∧ ∀ i, i < k → gi xs (i : Int) = gi ys (i : Int)) (fun k => n - k) 0 ⟨rfl, rfl, rfl, trivial⟩ ⟨Keep.refl _, Nat.zero_le _, fun i hi => absurd hi (by omega)⟩ ?_
    rintro k w1 ⟨hk1, hk, hall⟩
    replace hx := hx.keep hk1
    replace hy := hy.keep hk1
    repeat refine zz ?_
    refine W_cond rfl (fun hc => ?_) (fun hc => ?_)
    · have hkn : k < n := by simp at hc; omega
      obtain ⟨hA, hck⟩ := hx.getI (i := (k : Int)) (by omega) (by omega)
      obtain ⟨hA2, hck2⟩ := hy.getI (i := (k : Int)) (by omega) (by omega)
      repeat refine zz ?_
      refine W_quiet (Keep w1) (by kernel_rfl) (by kernel_rfl) (Keep.drew _) ?_
      repeat refine qq ?_
      intro w2 hk2 
      repeat refine zz ?_
      refine W_cond rfl (fun hd => ?_) (fun hd => ?_)
      · repeat refine zz ?_
        simp at hd
        refine ret1 rfl rfl ⟨?_, hk1.keep hk2⟩
        have : xs ≠ ys := fun e => by subst e; simp at hd
        simp [this]
      · simp at hd
        repeat refine zz ?_
        exact ⟨k + 1, ⟨rfl, rfl, rfl, trivial⟩, ⟨hk1.keep hk2, by omega, fun i hi => by
          rcases Nat.lt_or_ge i k with h1 | h1
          · exact hall i h1
          · have : i = k := by omega
            subst this; exact hd⟩, by omega⟩
    · simp at hc
      obtain rfl : k = n := by omega
      repeat refine zz ?_
      refine ret1 rfl rfl ⟨?_, hk1⟩
      have : xs = ys := gi_ext (by omega) (fun i hi => hall i (by omega))
      simp [this]

theorem l5SamePairs_ok {w : World} {v u : Value} {xs ys : List (Int × Int)} {fp gp : List Nat} (hx : Sl pairR w v xs fp) (hy : Sl pairR w u ys gp) :
    Run Try.prog 115 [v, u] w (fun r w' => r = .bool (decide (xs = ys)) ∧ Keep w w') := by
  have hn := hx.le
  obtain ⟨A, n, c, rfl, hnx⟩ := hx.split
  obtain ⟨A2, m, c2, rfl, hmy⟩ := hy.split
  refine Run_intro Try.func115 (by unfold CallOk; kernel_rfl) rfl Try.ntmps115 (Nat.le_of_ble_eq_true rfl) ?_
  simp only [penv, Nat.reduceAdd, Nat.zero_add]
  repeat refine zz ?_
  refine W_cond rfl (fun hc => ?_) (fun hc => ?_)
  · repeat refine zz ?_
    simp at hc
    refine ret1 rfl rfl ⟨?_, Keep.refl _⟩
    have : xs ≠ ys := fun e => by subst e; omega
    simp [this]
  · simp at hc
    have hnm : n = m := by omega
    subst hnm
    repeat refine zz ?_
    refine W_loop (S := Nat) (fun k => [(0, .slice A n c), (1, .slice A2 n c2), (5, .int .i64 (k : Int))]) (fun k w' => Keep w w' ∧ k ≤ n ∧ ∀ i, i < k → gi xs (i : Int) = gi ys (i : Int)) (fun k => n - k) 0 ⟨rfl, rfl, rfl, trivial⟩ ⟨Keep.refl _, Nat.zero_le _, fun i hi => absurd hi (by omega)⟩ ?_
    rintro k w1 ⟨hk1, hk, hall⟩
    replace hx := hx.keep hk1
    replace hy := hy.keep hk1
    repeat refine zz ?_
    refine W_cond rfl (fun hc => ?_) (fun hc => ?_)
    · have hkn : k < n := by simp at hc; omega
      obtain ⟨hA, hck⟩ := pair_get hx (i := (k : Int)) (by omega) (by omega)
      obtain ⟨hA2, hck2⟩ := pair_get hy (i := (k : Int)) (by omega) (by omega)
      repeat refine zz ?_
      refine W_quiet (Keep w1) (by kernel_rfl) (by kernel_rfl) (Keep.drew _) ?_
      repeat refine qq ?_
      refine WQ_pure rfl rfl (fun _ _ => o_neqP rfl rfl) ?_
      repeat refine qq ?_
      intro w2 hk2 
      repeat refine zz ?_
      refine W_cond rfl (fun hd => ?_) (fun hd => ?_)
      · repeat refine zz ?_
        simp at hd
        refine ret1 rfl rfl ⟨?_, hk1.keep hk2⟩
        have : xs ≠ ys := fun e => by subst e; simp at hd
        simp [this]
      · simp at hd
        repeat refine zz ?_
        exact ⟨k + 1, ⟨rfl, rfl, rfl, trivial⟩, ⟨hk1.keep hk2, by omega, fun i hi => by
          rcases Nat.lt_or_ge i k with h1 | h1
          · exact hall i h1
          · have : i = k := by omega
            subst this; exact Prod.ext hd.1 hd.2⟩, by omega⟩
    · simp at hc
      obtain rfl : k = n := by omega
      repeat refine zz ?_
      refine ret1 rfl rfl ⟨?_, hk1⟩
      have : xs = ys := gi_ext (by omega) (fun i hi => hall i (by omega))
      simp [this]

theorem l5SameWish_ok {w : World} {v1 u1 v2 u2 : Value} {x y : Wsh} {f1 g1 f2 g2 : List Nat} (hx : Sl intR w v1 x.list f1) (hx2 : Sl pairR w u1 x.pairs g1) (hy : Sl intR w v2 y.list f2) (hy2 : Sl pairR w u2 y.pairs g2) :
    Run Try.prog 65 [.agg #[.int .i64 x.kind, .int .i64 x.field, .int .i64 x.value, v1, u1], .agg #[.int .i64 y.kind, .int .i64 y.field, .int .i64 y.value, v2, u2]] w (fun r w' => r = .bool (decide (x = y)) ∧ Keep w w') := by
  refine Run_intro Try.func65 (by unfold CallOk; kernel_rfl) rfl Try.ntmps65 (Nat.le_of_ble_eq_true rfl) ?_
  simp only [penv, Nat.reduceAdd, Nat.zero_add]
  repeat refine zz ?_
  refine o_boxS rfl rfl rfl ?_
  intro b1 w1 hal1
  have hb1 := hal1.blk
  have hk := hal1.kp
  replace hx := hx.keep hal1.kp
  replace hx2 := hx2.keep hal1.kp
  replace hy := hy.keep hal1.kp
  replace hy2 := hy2.keep hal1.kp
  repeat refine zz ?_
  refine o_boxS rfl rfl rfl ?_
  intro b2 w2 hal2
  have hb2 := hal2.blk
  replace hx := hx.keep hal2.kp
  replace hx2 := hx2.keep hal2.kp
  replace hy := hy.keep hal2.kp
  replace hy2 := hy2.keep hal2.kp
  replace hb1 := hb1.keep hal2.kp
  replace hk := hk.keep hal2.kp
  repeat refine zz ?_
  refine WL_part rfl rfl (fun hc => ?_) (fun hc => ?_)
  · simp at hc
    repeat refine zz ?_
    refine WL_part rfl rfl (fun hc2 => ?_) (fun hc2 => ?_)
    · simp at hc2
      repeat refine zz ?_
      refine WL_part rfl rfl (fun hc3 => ?_) (fun hc3 => ?_)
      · simp at hc3
        repeat refine zz ?_
        refine o_call rfl rfl rfl (l2Ints_ok hx hy) ?_
        rintro _ w3 ⟨rfl, hk3⟩
        replace hk := hk.keep hk3
        replace hb1 := hb1.keep hk3
        replace hb2 := hb2.keep hk3
        replace hx2 := hx2.keep hk3
        replace hy2 := hy2.keep hk3
        repeat refine zz ?_
        refine WL_part rfl rfl (fun hd => ?_) (fun hd => ?_)
        · simp at hd
          repeat refine zz ?_
          refine o_call rfl rfl rfl (l5SamePairs_ok hx2 hy2) ?_
          rintro _ w4 ⟨rfl, hk4⟩
          replace hk := hk.keep hk4
          repeat refine zz ?_
          refine ret1 rfl rfl ⟨?_, hk⟩
          congr 1
          rw [decide_eq_decide]
          constructor
          · intro h; cases x; cases y; simp_all
          · intro h; rw [h]
        · simp at hd
          repeat refine zz ?_
          exact ret1 rfl rfl ⟨by rw [decide_eq_false]; exact fun e => hd (by rw [e]), hk⟩
      · simp at hc3
        repeat refine zz ?_
        exact ret1 rfl rfl ⟨by rw [decide_eq_false]; exact fun e => hc3 (by rw [e]), hk⟩
    · simp at hc2
      repeat refine zz ?_
      exact ret1 rfl rfl ⟨by rw [decide_eq_false]; exact fun e => hc2 (by rw [e]), hk⟩
  · simp at hc
    repeat refine zz ?_
    exact ret1 rfl rfl ⟨by rw [decide_eq_false]; exact fun e => hc (by rw [e]), hk⟩

theorem spec_EqualExpressions_ok {w : World} {v u : Value} {xs ys : List Nod} {fp gp : List Nat} (hx : Sl nodeR w v xs fp) (hy : Sl nodeR w u ys gp) :
    Run Try.prog 25 [v, u] w (fun r w' => r = .bool (decide (xs = ys)) ∧ Keep w w') := by
  have hn := hx.le
  obtain ⟨A, n, c, rfl, hnx⟩ := hx.split
  obtain ⟨A2, m, c2, rfl, hmy⟩ := hy.split
  refine Run_intro Try.func25 (by unfold CallOk; kernel_rfl) rfl Try.ntmps25 (Nat.le_of_ble_eq_true rfl) ?_
  simp only [penv, Nat.reduceAdd, Nat.zero_add]
  repeat refine zz ?_
  refine W_cond rfl (fun hc => ?_) (fun hc => ?_)
  · repeat refine zz ?_
    simp at hc
    refine ret1 rfl rfl ⟨?_, Keep.refl _⟩
    have : xs ≠ ys := fun e => by subst e; omega
    simp [this]
  · simp at hc
    have hnm : n = m := by omega
    subst hnm
    repeat refine zz ?_
    refine W_loop (S := Nat) (fun k => [(0, .slice A n c), (1, .slice A2 n c2), (5, .int .i64 (k : Int))]) (fun k w' => Keep w w' ∧ k ≤ n ∧ ∀ i, i < k → gi xs (i : Int) = gi ys (i : Int)) (fun k => n - k) 0 ⟨rfl, rfl, rfl, trivial⟩ ⟨Keep.refl _, Nat.zero_le _, fun i hi => absurd hi (by omega)⟩ ?_
    rintro k w1 ⟨hk1, hk, hall⟩
    replace hx := hx.keep hk1
    replace hy := hy.keep hk1
    repeat refine zz ?_
    refine W_cond rfl (fun hc => ?_) (fun hc => ?_)
    · have hkn : k < n := by simp at hc; omega
      obtain ⟨hA, va, ua, fa1, ga1, hck, hva, hua, _⟩ := node_get hx (i := (k : Int)) (by omega) (by omega)
      obtain ⟨hA2, vb, ub, fb1, gb1, hck2, hvb, hub, _⟩ := node_get hy (i := (k : Int)) (by omega) (by omega)
      repeat refine zz ?_
      refine W_quiet (Keep w1) (by kernel_rfl) (by kernel_rfl) (Keep.drew _) ?_
      repeat refine qq ?_
      refine WQ_part rfl rfl (fun hop => ?_) (fun hop => ?_)
      · simp at hop
        repeat refine qq ?_
        intro w2 hk2 
        repeat refine zz ?_
        refine ret1 rfl rfl ⟨?_, hk1.keep hk2⟩
        have : xs ≠ ys := fun e => by subst e; exact hop rfl
        simp [this]
      simp at hop
      repeat refine qq ?_
      refine WQ_call rfl rfl rfl (fun w' hw' => (l5SameWish_ok (hva.keep hw') (hua.keep hw') (hvb.keep hw') (hub.keep hw')).kk hw') ?_
      repeat refine qq ?_
      intro w2 hk2 
      repeat refine zz ?_
      refine W_cond rfl (fun hd => ?_) (fun hd => ?_)
      · repeat refine zz ?_
        simp at hd
        refine ret1 rfl rfl ⟨?_, hk1.keep hk2⟩
        have : xs ≠ ys := fun e => by subst e; exact hd rfl
        simp [this]
      · simp at hd
        repeat refine zz ?_
        exact ⟨k + 1, ⟨rfl, rfl, rfl, trivial⟩, ⟨hk1.keep hk2, by omega, fun i hi => by
          rcases Nat.lt_or_ge i k with h1 | h1
          · exact hall i h1
          · have : i = k := by omega
            subst this
            have e1 : ∀ a b : Nod, a.op = b.op → a.wish = b.wish → a = b := by intro a b; cases a; cases b; simp_all
            exact e1 _ _ hop hd⟩, by omega⟩
    · simp at hc
      obtain rfl : k = n := by omega
      repeat refine zz ?_
      refine ret1 rfl rfl ⟨?_, hk1⟩
      have : xs = ys := gi_ext (by omega) (fun i hi => hall i (by omega))
      simp [this]

theorem eqExpr1_ok {w : World} {v1 u1 v2 u2 : Value} {x y : Nod} {f1 g1 f2 g2 : List Nat} (hx : Sl intR w v1 x.wish.list f1) (hx2 : Sl pairR w u1 x.wish.pairs g1) (hy : Sl intR w v2 y.wish.list f2) (hy2 : Sl pairR w u2 y.wish.pairs g2) :
    Run Try.prog 139 [.agg #[.int .i64 x.op, .int .i64 x.wish.kind, .int .i64 x.wish.field, .int .i64 x.wish.value, v1, u1], .agg #[.int .i64 y.op, .int .i64 y.wish.kind, .int .i64 y.wish.field, .int .i64 y.wish.value, v2, u2]] w (fun r w' => r = .bool (decide (x = y)) ∧ Keep w w') := by
  refine Run_intro Try.func139 (by unfold CallOk; kernel_rfl) rfl Try.ntmps139 (Nat.le_of_ble_eq_true rfl) ?_
  simp only [penv, Nat.reduceAdd, Nat.zero_add]
  repeat refine zz ?_
  refine o_boxS rfl rfl rfl ?_
  intro b1 w1 hal1
  have hb1 := hal1.blk
  have hk := hal1.kp
  replace hx := hx.keep hal1.kp
  replace hx2 := hx2.keep hal1.kp
  replace hy := hy.keep hal1.kp
  replace hy2 := hy2.keep hal1.kp
  repeat refine zz ?_
  refine o_boxS rfl rfl rfl ?_
  intro b2 w2 hal2
  have hb2 := hal2.blk
  replace hx := hx.keep hal2.kp
  replace hx2 := hx2.keep hal2.kp
  replace hy := hy.keep hal2.kp
  replace hy2 := hy2.keep hal2.kp
  replace hb1 := hb1.keep hal2.kp
  replace hk := hk.keep hal2.kp
  have hb1 : Blk w2 b1 _ [.int .i64 x.op, .int .i64 x.wish.kind, .int .i64 x.wish.field, .int .i64 x.wish.value, v1, u1] := hb1
  have hb2 : Blk w2 b2 _ [.int .i64 y.op, .int .i64 y.wish.kind, .int .i64 y.wish.field, .int .i64 y.wish.value, v2, u2] := hb2
  have t1 := hb1.tail1
  have t2 := hb2.tail1
  repeat refine zz ?_
  refine WL_part rfl rfl (fun hc => ?_) (fun hc => ?_)
  · simp at hc
    repeat refine zz ?_
    refine o_call rfl rfl rfl (equalWish_ok hx hx2 hy hy2) ?_
    rintro _ w3 ⟨rfl, hk3⟩
    repeat refine zz ?_
    refine ret1 rfl rfl ⟨?_, hk.keep hk3⟩
    congr 1
    rw [decide_eq_decide]
    constructor
    · intro h; cases x; cases y; simp_all
    · intro h; rw [h]
  · simp at hc
    repeat refine zz ?_
    exact ret1 rfl rfl ⟨by rw [decide_eq_false]; exact fun e => hc (by rw [e]), hk⟩

set_option maxHeartbeats 1000000 in
theorem slEqFuncN_ok {w : World} {v u : Value} {xs ys : List Nod} {fp gp : List Nat} (hx : Sl nodeR w v xs fp) (hy : Sl nodeR w u ys gp) :
    Run Try.prog 138 [v, u, .func (.func 139) #[] #[]] w (fun r w' => r = .bool (decide (xs = ys)) ∧ Keep w w') := by
  have hn := hx.le
  obtain ⟨A, n, c, rfl, hnx⟩ := hx.split
  obtain ⟨A2, m, c2, rfl, hmy⟩ := hy.split
  refine Run_intro Try.func138 (by unfold CallOk; kernel_rfl) rfl Try.ntmps138 (Nat.le_of_ble_eq_true rfl) ?_
  simp only [penv, Nat.reduceAdd, Nat.zero_add]
  repeat refine zz ?_
  refine W_cond rfl (fun hc => ?_) (fun hc => ?_)
  · repeat refine zz ?_
    simp at hc
    refine ret1 rfl rfl ⟨?_, Keep.refl _⟩
    have : xs ≠ ys := fun e => by subst e; omega
    simp [this]
  · simp at hc
    have hnm : n = m := by omega
    subst hnm
    repeat refine zz ?_
    refine W_loop (S := Nat) (fun k => [(1, .slice A2 n c2), (2, .func (.func 139) #[] #[]), (15, .slice A n c), (16, .int .i64 n), (17, .int .i64 (k : Int))]) (fun k w' => Keep w w' ∧ k ≤ n ∧ ∀ i, i < k → gi xs (i : Int) = gi ys (i : Int)) (fun k => n - k) 0 ⟨rfl, rfl, rfl, rfl, rfl, trivial⟩ ⟨Keep.refl _, Nat.zero_le _, fun i hi => absurd hi (by omega)⟩ ?_
    rintro k w1 ⟨hk1, hk, hall⟩
    replace hx := hx.keep hk1
    replace hy := hy.keep hk1
    repeat refine zz ?_
    refine W_cond rfl (fun hc => ?_) (fun hc => ?_)
    · have hkn : k < n := by simp at hc; omega
      obtain ⟨hA, va, ua, fa1, ga1, hck, hva, hua, _⟩ := node_get hx (i := (k : Int)) (by omega) (by omega)
      obtain ⟨hA2, vb, ub, fb1, gb1, hck2, hvb, hub, _⟩ := node_get hy (i := (k : Int)) (by omega) (by omega)
      have z1 := hk1.size_le
      have o1 := hva.oneCell
      have o2 := hua.oneCell
      have o3 := hvb.oneCell
      have o4 := hub.oneCell
      have d1 := hva.dom
      have d2 := hua.dom
      have d3 := hvb.dom
      have d4 := hub.dom
      repeat refine zz ?_
      refine o_alloc rfl rfl ?_
      intro b8 w2 hal8
      have hb80 := hal8.blk
      have e8 := hal8.b_eq
      have z8 := hal8.size
      have hk2 := hk1.keep hal8.kp
      have hy2 := hy.keep hal8.kp
      have hck2' := hck2.keep hal8.kp
      replace hva := hva.keep hal8.kp
      replace hua := hua.keep hal8.kp
      replace hvb := hvb.keep hal8.kp
      replace hub := hub.keep hal8.kp
      repeat refine zz ?_
      refine o_storeS (b := b8) (off := 0) rfl rfl rfl rfl (by repeat (first | exact ones_nil | refine ones_cons (by first | rfl | assumption) ?_)) rfl hb80 (by simp) ?_
      intro w3 hu3
      have hb8 : Blk w3 b8 _ [.int .i64 (gi xs (k : Int)).op, .int .i64 (gi xs (k : Int)).wish.kind, .int .i64 (gi xs (k : Int)).wish.field, .int .i64 (gi xs (k : Int)).wish.value, va, ua] := hu3.blk
      replace hk2 := hk2.upd hu3 (by omega)
      have hy3 := hy.keep ((Keep.refl w1).keep hal8.kp |>.upd hu3 (by omega))
      obtain ⟨_, vb', ub', fb', gb', hck3, hvb', hub', _⟩ := node_get hy3 (i := (k : Int)) (by omega) (by omega)
      have kA : Keep w1 w3 := ((Keep.refl w1).keep hal8.kp).upd hu3 (by omega)
      replace hva := hva.upd hu3 (fun hm => by have := d1 _ hm; omega)
      replace hua := hua.upd hu3 (fun hm => by have := d2 _ hm; omega)
      have o3' := hvb'.oneCell
      have o4' := hub'.oneCell
      have z3 := hu3.size
      repeat refine zz ?_
      refine o_alloc rfl rfl ?_
      intro b9 w4 hal9
      have hb90 := hal9.blk
      have e9 := hal9.b_eq
      have z9 := hal9.size
      replace hk2 := hk2.keep hal9.kp
      have d3' := hvb'.dom
      have d4' := hub'.dom
      replace hva := hva.keep hal9.kp
      replace hua := hua.keep hal9.kp
      replace hvb' := hvb'.keep hal9.kp
      replace hub' := hub'.keep hal9.kp
      replace hb8 := hb8.keep hal9.kp
      repeat refine zz ?_
      refine o_storeS (b := b9) (off := 0) rfl rfl rfl rfl (by repeat (first | exact ones_nil | refine ones_cons (by first | rfl | assumption) ?_)) rfl hb90 (by simp) ?_
      intro w5 hu5
      have hb9 : Blk w5 b9 _ [.int .i64 (gi ys (k : Int)).op, .int .i64 (gi ys (k : Int)).wish.kind, .int .i64 (gi ys (k : Int)).wish.field, .int .i64 (gi ys (k : Int)).wish.value, vb', ub'] := hu5.blk
      replace hk2 := hk2.upd hu5 (by omega)
      replace hva := hva.upd hu5 (fun hm => by have := d1 _ hm; omega)
      replace hua := hua.upd hu5 (fun hm => by have := d2 _ hm; omega)
      replace hvb' := hvb'.upd hu5 (fun hm => by have := d3' _ hm; omega)
      replace hub' := hub'.upd hu5 (fun hm => by have := d4' _ hm; omega)
      replace hb8 := hb8.upd hu5 (by omega)
      have c8 := hb8.cells
      have c9 := hb9.cells
      repeat refine zz ?_
      refine o_callv (fi := []) (ca := []) rfl rfl rfl rfl (eqExpr1_ok hva hua hvb' hub') ?_
      rintro _ w6 ⟨rfl, hk6⟩
      repeat refine zz ?_
      refine W_cond rfl (fun hd => ?_) (fun hd => ?_)
      · repeat refine zz ?_
        simp at hd
        refine ret1 rfl rfl ⟨?_, hk2.keep hk6⟩
        have : xs ≠ ys := fun e => by subst e; exact hd rfl
        simp [this]
      · simp at hd
        repeat refine zz ?_
        exact ⟨k + 1, ⟨rfl, rfl, rfl, rfl, rfl, trivial⟩, ⟨hk2.keep hk6, by omega, fun i hi => by
          rcases Nat.lt_or_ge i k with h1 | h1
          · exact hall i h1
          · have : i = k := by omega
            subst this; exact hd⟩, by omega⟩
    · simp at hc
      obtain rfl : k = n := by omega
      repeat refine zz ?_
      refine ret1 rfl rfl ⟨?_, hk1⟩
      have : xs = ys := gi_ext (by omega) (fun i hi => hall i (by omega))
      simp [this]

theorem impl_EqualExpressions_ok {w : World} {v u : Value} {xs ys : List Nod} {fp gp : List Nat} (hx : Sl nodeR w v xs fp) (hy : Sl nodeR w u ys gp) :
    Run Try.prog 109 [v, u] w (fun r w' => r = .bool (decide (xs = ys)) ∧ Keep w w') := by
  refine Run_intro Try.func109 (by unfold CallOk; kernel_rfl) rfl Try.ntmps109 (Nat.le_of_ble_eq_true rfl) ?_
  simp only [penv, Nat.reduceAdd, Nat.zero_add]
  repeat refine zz ?_
  refine o_call rfl rfl rfl (slEqFuncN_ok hx hy) ?_
  rintro _ w1 ⟨rfl, hk⟩
  repeat refine zz ?_
  exact ret1 rfl rfl ⟨rfl, hk⟩
end Go.E

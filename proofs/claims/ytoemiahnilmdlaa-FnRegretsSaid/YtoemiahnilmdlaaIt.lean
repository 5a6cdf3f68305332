/-
  Contracts on items: validity, the laws' copies, sizes and comparisons of one item. Conditions: as stated.
-/
import Derived.Test.YtoemiahnilmdlaaLa
import Derived.Test.YtoemiahnilmdlaaMrk
import Derived.Test.YtoemiahnilmdlaaFa
set_option linter.unusedVariables false
set_option linter.unusedSimpArgs false
namespace Go.E
open Go Go.RowKit Go.Proofs
attribute [local irreducible] W WL WD WE thenE inE retQ PureOp Keep Cell Cells Blk Sl Rows Own Src Fresh

theorem impl_areValues_ok {w : World} {v : Value} {xs : List Int} {fp : List Nat} (hx : Sl intR w v xs fp) : Run Try.prog 206 [v] w (fun r w' => r = .bool (areVals xs) ∧ w = w') := by
  have hn := hx.le
  obtain ⟨A, n, c, rfl, hnx⟩ := hx.split
  refine Run_intro Try.func206 (by unfold CallOk; kernel_rfl) rfl Try.ntmps206 (Nat.le_of_ble_eq_true rfl) ?_
  simp only [penv, Nat.reduceAdd, Nat.zero_add]
  repeat refine zz ?_
  refine W_loop (S := Nat) (fun k => [(0, .slice A n c), (5, .slice A n c), (6, .int .i64 n), (7, .int .i64 (k : Int))]) (fun k w' => w = w' ∧ k ≤ n ∧ ∀ i, i < k → inR (gi xs (i : Int)) 0 9 = true) (fun k => n - k) 0 ⟨rfl, rfl, rfl, rfl, trivial⟩ ⟨rfl, Nat.zero_le _, fun i hi => absurd hi (by omega)⟩ ?_
  rintro k _ ⟨rfl, hk, hall⟩
  repeat refine zz ?_
  refine W_cond rfl (fun hc => ?_) (fun hc => ?_)
  · have hkn : k < n := by simp at hc; omega
    obtain ⟨hA, hck⟩ := hx.getI (i := (k : Int)) (by omega) (by omega)
    repeat refine zz ?_
    refine o_call rfl rfl rfl (within_ok _ _ _ _) ?_
    rintro _ _ ⟨rfl, rfl⟩
    repeat refine zz ?_
    refine W_cond rfl (fun hd => ?_) (fun hd => ?_)
    · simp at hd
      repeat refine zz ?_
      exact ret1 rfl rfl ⟨by rw [areVals, allB_false (k := k) (by omega) hd], rfl⟩
    · simp at hd
      repeat refine zz ?_
      exact ⟨k + 1, ⟨rfl, rfl, rfl, rfl, trivial⟩, ⟨rfl, by omega, all_step hall hd⟩, by omega⟩
  · simp at hc
    obtain rfl : k = n := by omega
    repeat refine zz ?_
    exact ret1 rfl rfl ⟨by rw [areVals, allB_true (by rwa [← hnx])], rfl⟩

theorem impl_IsItem_ok {w : World} {u : Value} {x : Itm} {fp : List Nat} (hx : Sl intR w u x.vals fp) : Run Try.prog 128 [.agg #[.int .i64 x.id, u]] w (fun r w' => r = .bool (isItem x) ∧ Keep w w') := by
  refine Run_intro Try.func128 (by unfold CallOk; kernel_rfl) rfl Try.ntmps128 (Nat.le_of_ble_eq_true rfl) ?_
  simp only [penv, Nat.reduceAdd, Nat.zero_add]
  repeat refine zz ?_
  refine o_boxS rfl rfl rfl ?_
  intro b w1 hal
  have hb := hal.blk
  have hk := hal.kp
  replace hx := hx.keep hk
  obtain ⟨A, n, c, rfl, hnx⟩ := hx.split
  repeat refine zz ?_
  refine o_call rfl rfl rfl (within_ok _ _ _ _) ?_
  rintro _ _ ⟨rfl, rfl⟩
  repeat refine zz ?_
  refine WL_part rfl rfl (fun h => ?_) (fun h => ?_)
  · repeat refine zz ?_
    refine WL_part rfl rfl (fun h2 => ?_) (fun h2 => ?_)
    · repeat refine zz ?_
      refine o_call rfl rfl rfl (impl_areValues_ok hx) ?_
      rintro _ _ ⟨rfl, rfl⟩
      repeat refine zz ?_
      refine ret1 rfl rfl ⟨?_, hk⟩
      simp at h2
      have : x.vals.length = 3 := by omega
      simp [isItem, h, this]
    · repeat refine zz ?_
      refine ret1 rfl rfl ⟨?_, hk⟩
      simp at h2
      have : x.vals.length ≠ 3 := by omega
      simp [isItem, h, this]
  · repeat refine zz ?_
    refine ret1 rfl rfl ⟨?_, hk⟩
    simp [isItem, h]

theorem spec_IsItem_ok {w : World} {u : Value} {x : Itm} {fp : List Nat} (hx : Sl intR w u x.vals fp) : Run Try.prog 121 [.agg #[.int .i64 x.id, u]] w (fun r w' => r = .bool (isItem x) ∧ Keep w w') := by
  have hn := hx.le
  refine Run_intro Try.func121 (by unfold CallOk; kernel_rfl) rfl Try.ntmps121 (Nat.le_of_ble_eq_true rfl) ?_
  simp only [penv, Nat.reduceAdd, Nat.zero_add]
  repeat refine zz ?_
  refine o_boxS rfl rfl rfl ?_
  intro b w1 hal
  have hb := hal.blk
  have hk := hal.kp
  replace hx := hx.keep hk
  obtain ⟨A, n, c, rfl, hnx⟩ := hx.split
  repeat refine zz ?_
  refine W_loop (S := Nat) (fun k => [(1, .pointer (some ⟨b, 0, none⟩)), (3, .int .i64 (k : Int))]) (fun k w' => w1 = w' ∧ k ≤ n ∧ ∀ i, i < k → inR (gi x.vals (i : Int)) 0 9 = true) (fun k => n - k) 0 ⟨rfl, rfl, trivial⟩ ⟨rfl, Nat.zero_le _, fun i hi => absurd hi (by omega)⟩ ?_
  rintro k _ ⟨rfl, hk1, hall⟩
  repeat refine zz ?_
  refine W_cond rfl (fun hc => ?_) (fun hc => ?_)
  · have hkn : k < n := by simp at hc; omega
    obtain ⟨hA, hck⟩ := hx.getI (i := (k : Int)) (by omega) (by omega)
    repeat refine zz ?_
    refine o_call rfl rfl rfl (l1In_ok _ _ _ _) ?_
    rintro _ _ ⟨rfl, rfl⟩
    repeat refine zz ?_
    refine W_cond rfl (fun hd => ?_) (fun hd => ?_)
    · simp at hd
      repeat refine zz ?_
      exact ret1 rfl rfl ⟨by rw [isItem, areVals, allB_false (k := k) (by omega) hd, Bool.and_false], hk⟩
    · simp at hd
      repeat refine zz ?_
      exact ⟨k + 1, ⟨rfl, rfl, trivial⟩, ⟨rfl, by omega, all_step hall hd⟩, by omega⟩
  · simp at hc
    obtain rfl : k = n := by omega
    have hav : areVals x.vals = true := by rw [areVals, allB_true (by rwa [← hnx])]
    repeat refine zz ?_
    refine o_call rfl rfl rfl (l1In_ok _ _ _ _) ?_
    rintro _ _ ⟨rfl, rfl⟩
    repeat refine zz ?_
    refine WL_part rfl rfl (fun h => ?_) (fun h => ?_)
    · repeat refine zz ?_
      refine ret1 rfl rfl ⟨?_, hk⟩
      rw [isItem, hav, h, Bool.and_true, Bool.true_and, ← hnx]
      congr 1
      rw [decide_eq_decide]; omega
    · repeat refine zz ?_
      refine ret1 rfl rfl ⟨?_, hk⟩
      simp [isItem, h]

theorem l11Weights_ok {w : World} {v : Value} {xs : List Int} {fp : List Nat} (hx : Sl intR w v xs fp) : Run Try.prog 129 [v] w (fun r w' => r = .bool (okWts xs) ∧ w = w') := by
  have hn := hx.le
  obtain ⟨A, n, c, rfl, hnx⟩ := hx.split
  refine Run_intro Try.func129 (by unfold CallOk; kernel_rfl) rfl Try.ntmps129 (Nat.le_of_ble_eq_true rfl) ?_
  simp only [penv, Nat.reduceAdd, Nat.zero_add]
  repeat refine zz ?_
  refine W_loop (S := Nat) (fun k => [(0, .slice A n c), (3, .int .i64 (k : Int))]) (fun k w' => w = w' ∧ k ≤ n ∧ ∀ i, i < k → inR (gi xs (i : Int)) 0 3 = true) (fun k => n - k) 0 ⟨rfl, rfl, trivial⟩ ⟨rfl, Nat.zero_le _, fun i hi => absurd hi (by omega)⟩ ?_
  rintro k _ ⟨rfl, hk, hall⟩
  repeat refine zz ?_
  refine W_cond rfl (fun hc => ?_) (fun hc => ?_)
  · have hkn : k < n := by simp at hc; omega
    obtain ⟨hA, hck⟩ := hx.getI (i := (k : Int)) (by omega) (by omega)
    repeat refine zz ?_
    refine o_call rfl rfl rfl (l1In_ok _ _ _ _) ?_
    rintro _ _ ⟨rfl, rfl⟩
    repeat refine zz ?_
    refine W_cond rfl (fun hd => ?_) (fun hd => ?_)
    · simp at hd
      repeat refine zz ?_
      exact ret1 rfl rfl ⟨by rw [okWts, areWts, allB_false (k := k) (by omega) hd, Bool.false_and], rfl⟩
    · simp at hd
      repeat refine zz ?_
      exact ⟨k + 1, ⟨rfl, rfl, trivial⟩, ⟨rfl, by omega, all_step hall hd⟩, by omega⟩
  · simp at hc
    obtain rfl : k = n := by omega
    repeat refine zz ?_
    refine ret1 rfl rfl ⟨?_, rfl⟩
    rw [okWts, areWts, allB_true (by rwa [← hnx]), Bool.true_and, ← hnx]
    congr 1
    rw [decide_eq_decide]; omega

theorem spec_UtilityOf_ok {w : World} {u v : Value} {x : Itm} {ws : List Int} {fp gp : List Nat} (hx : Sl intR w u x.vals fp) (hw : Sl intR w v ws gp) :
    Run Try.prog 38 [.agg #[.int .i64 x.id, u], v] w (fun r w' => r = .int .i64 (utility x ws) ∧ Keep w w') := by
  refine Run_intro Try.func38 (by unfold CallOk; kernel_rfl) rfl Try.ntmps38 (Nat.le_of_ble_eq_true rfl) ?_
  simp only [penv, Nat.reduceAdd, Nat.zero_add]
  repeat refine zz ?_
  refine o_boxS rfl rfl rfl ?_
  intro b w1 hal
  have hb := hal.blk
  have hk := hal.kp
  replace hx := hx.keep hk
  replace hw := hw.keep hk
  repeat refine zz ?_
  refine o_call rfl rfl rfl (spec_IsItem_ok hx) ?_
  rintro _ w2 ⟨rfl, hk2⟩
  replace hx := hx.keep hk2
  replace hw := hw.keep hk2
  replace hb := hb.keep hk2
  replace hk := hk.keep hk2
  repeat refine zz ?_
  refine WL_part rfl rfl (fun h => ?_) (fun h => ?_)
  · simp at h
    repeat refine zz ?_
    refine ret1 rfl rfl ⟨?_, hk⟩
    simp [utility, h]
  · simp at h
    repeat refine zz ?_
    refine o_call rfl rfl rfl (l11Weights_ok hw) ?_
    rintro _ _ ⟨rfl, rfl⟩
    repeat refine zz ?_
    refine W_cond rfl (fun h2 => ?_) (fun h2 => ?_)
    · simp at h2
      repeat refine zz ?_
      refine ret1 rfl rfl ⟨?_, hk⟩
      simp [utility, h2]
    · simp at h2
      have hvl := isItem_len h
      have hva := isItem_vals h
      have hwl : ws.length = 3 := by simp [okWts] at h2; exact h2.2
      have hwa : areWts ws = true := by simp [okWts] at h2; exact h2.1
      obtain ⟨A, n, c, rfl, hnx⟩ := hx.split
      obtain ⟨A2, m, c2, rfl, hmw⟩ := hw.split
      repeat refine zz ?_
      refine W_loop (S := Nat) (fun k => [(1, .slice A2 m c2), (2, .pointer (some ⟨b, 0, none⟩)), (5, .int .i64 (dot x.vals ws k)), (6, .int .i64 (k : Int))]) (fun k w' => Keep w2 w' ∧ k ≤ 3) (fun k => 3 - k) 0 ⟨rfl, rfl, rfl, rfl, trivial⟩ ⟨Keep.refl _, Nat.zero_le _⟩ ?_
      rintro k w3 ⟨hk3, hle⟩
      replace hx := hx.keep hk3
      replace hw := hw.keep hk3
      replace hb := hb.keep hk3
      replace hk := hk.keep hk3
      repeat refine zz ?_
      refine W_cond rfl (fun hc => ?_) (fun hc => ?_)
      · have hkn : k < 3 := by simp at hc; omega
        obtain ⟨hA, hck⟩ := hx.getI (i := (k : Int)) (by omega) (by omega)
        obtain ⟨hA2, hck2⟩ := hw.getI (i := (k : Int)) (by omega) (by omega)
        have hm := mul_bd (areVals_at hva (i := k) (by omega)) (areWts_at hwa (i := k) (by omega))
        have hd := dot_bd hva hwa hvl hwl k (by omega)
        rw [Int.mul_comm] at hm
        repeat refine zz ?_
        refine W_quiet (Keep w3) (by kernel_rfl) (by kernel_rfl) (Keep.drew _) ?_
        repeat refine qq ?_
        refine WQ_pure rfl rfl (fun _ _ => o_mul rfl rfl (by omega)) ?_
        repeat refine qq ?_
        intro w4 hk4 
        repeat refine zz ?_
        exact ⟨k + 1, ⟨rfl, rfl, find_int rfl (by rw [dot, Int.mul_comm]), rfl, trivial⟩, ⟨hk3.keep hk4, by omega⟩, by omega⟩
      · simp at hc
        obtain rfl : k = 3 := by omega
        repeat refine zz ?_
        refine ret1 rfl rfl ⟨?_, hk⟩
        simp [utility, h, h2]

theorem impl_UtilityOf_ok {w : World} {u v : Value} {x : Itm} {ws : List Int} {fp gp : List Nat} (hx : Sl intR w u x.vals fp) (hw : Sl intR w v ws gp) :
    Run Try.prog 37 [.agg #[.int .i64 x.id, u], v] w (fun r w' => r = .int .i64 (utility x ws) ∧ Keep w w') := by
  have hwle := hw.le
  refine Run_intro Try.func37 (by unfold CallOk; kernel_rfl) rfl Try.ntmps37 (Nat.le_of_ble_eq_true rfl) ?_
  simp only [penv, Nat.reduceAdd, Nat.zero_add]
  repeat refine zz ?_
  refine o_boxS rfl rfl rfl ?_
  intro b w1 hal
  have hb := hal.blk
  have hk := hal.kp
  replace hx := hx.keep hk
  replace hw := hw.keep hk
  obtain ⟨A2, m, c2, rfl, hmw⟩ := hw.split
  repeat refine zz ?_
  refine W_loop (S := Nat) (fun k => [(1, .slice A2 m c2), (2, .pointer (some ⟨b, 0, none⟩)), (10, .slice A2 m c2), (11, .int .i64 m), (12, .int .i64 (k : Int))]) (fun k w' => w1 = w' ∧ k ≤ m ∧ ∀ i, i < k → inR (gi ws (i : Int)) 0 3 = true) (fun k => m - k) 0 ⟨rfl, rfl, rfl, rfl, rfl, trivial⟩ ⟨rfl, Nat.zero_le _, fun i hi => absurd hi (by omega)⟩ ?_
  rintro k _ ⟨rfl, hk1, hall⟩
  repeat refine zz ?_
  refine W_cond rfl (fun hc => ?_) (fun hc => ?_)
  · have hkn : k < m := by simp at hc; omega
    obtain ⟨hA, hck⟩ := hw.getI (i := (k : Int)) (by omega) (by omega)
    repeat refine zz ?_
    refine o_call rfl rfl rfl (within_ok _ _ _ _) ?_
    rintro _ _ ⟨rfl, rfl⟩
    repeat refine zz ?_
    refine W_cond rfl (fun hd => ?_) (fun hd => ?_)
    · simp at hd
      repeat refine zz ?_
      exact ret1 rfl rfl ⟨by rw [utility, okWts, areWts, allB_false (k := k) (by omega) hd]; simp, hk⟩
    · simp at hd
      repeat refine zz ?_
      exact ⟨k + 1, ⟨rfl, rfl, rfl, rfl, rfl, trivial⟩, ⟨rfl, by omega, all_step hall hd⟩, by omega⟩
  · simp at hc
    obtain rfl : k = m := by omega
    have hwa : areWts ws = true := by rw [areWts, allB_true (by rwa [← hmw])]
    repeat refine zz ?_
    refine o_call rfl rfl rfl (impl_IsItem_ok hx) ?_
    rintro _ w2 ⟨rfl, hk2⟩
    replace hx := hx.keep hk2
    replace hw := hw.keep hk2
    replace hb := hb.keep hk2
    replace hk := hk.keep hk2
    repeat refine zz ?_
    refine WL_part rfl rfl (fun h => ?_) (fun h => ?_)
    · simp at h
      repeat refine zz ?_
      refine ret1 rfl rfl ⟨?_, hk⟩
      simp [utility, h]
    · simp at h
      repeat refine zz ?_
      refine W_cond rfl (fun h2 => ?_) (fun h2 => ?_)
      · simp at h2
        have : ws.length ≠ 3 := by omega
        repeat refine zz ?_
        refine ret1 rfl rfl ⟨?_, hk⟩
        simp [utility, okWts, this]
      · simp at h2
        have hwl : ws.length = 3 := by omega
        have hvl := isItem_len h
        have hva := isItem_vals h
        obtain ⟨A, n, c, rfl, hnx⟩ := hx.split
        repeat refine zz ?_
        refine W_loop (S := Nat) (fun j => [(1, .slice A2 k c2), (7, .int .i64 (dot x.vals ws j)), (29, .slice A n c), (30, .int .i64 n), (31, .int .i64 (j : Int))]) (fun j w' => w2 = w' ∧ j ≤ 3) (fun j => 3 - j) 0 ⟨rfl, rfl, rfl, rfl, rfl, trivial⟩ ⟨rfl, Nat.zero_le _⟩ ?_
        rintro j _ ⟨rfl, hle⟩
        repeat refine zz ?_
        refine W_cond rfl (fun hc => ?_) (fun hc => ?_)
        · have hkn : j < 3 := by simp at hc; omega
          obtain ⟨hA, hck⟩ := hx.getI (i := (j : Int)) (by omega) (by omega)
          obtain ⟨hA2, hck2⟩ := hw.getI (i := (j : Int)) (by omega) (by omega)
          have hm := mul_bd (areVals_at hva (i := j) (by omega)) (areWts_at hwa (i := j) (by omega))
          have hd := dot_bd hva hwa hvl hwl j (by omega)
          repeat refine zz ?_
          refine WL_pure rfl rfl (o_mul rfl rfl (by omega)) ?_
          repeat refine zz ?_
          exact ⟨j + 1, ⟨rfl, rfl, rfl, rfl, rfl, trivial⟩, ⟨rfl, by omega⟩, by omega⟩
        · simp at hc
          obtain rfl : j = 3 := by omega
          repeat refine zz ?_
          refine ret1 rfl rfl ⟨?_, hk⟩
          simp [utility, okWts, h, hwa, hwl]
end Go.E

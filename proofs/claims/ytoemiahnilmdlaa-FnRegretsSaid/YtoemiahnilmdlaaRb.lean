/-
  Contracts: the best utility in a set of items, by the program and by the reference. Conditions: none.
-/
import Derived.Test.YtoemiahnilmdlaaRa
set_option linter.unusedVariables false
set_option linter.unusedSimpArgs false
namespace Go.E
open Go Go.RowKit Go.Proofs
attribute [local irreducible] W WL WD WE thenE inE retQ PureOp Keep Cell Cells Blk Sl Rows Own Src Fresh

/-- the greatest utility among the first n items whose number is one of ids -/
def bestU (L : List Itm) (ids ws : List Int) : Nat → Int
  | 0 => 0
  | n + 1 => if hasI ids (gi L (n : Int)).id then max (bestU L ids ws n) (utility (gi L (n : Int)) ws) else bestU L ids ws n
def bestUtil (L : List Itm) (ids ws : List Int) : Int := bestU L ids ws L.length
theorem utility_bd (x : Itm) (ws : List Int) : 0 ≤ utility x ws ∧ utility x ws ≤ 81 := by
  unfold utility
  split
  · rename_i h
    simp only [Bool.and_eq_true] at h
    obtain ⟨h1, h2⟩ := h
    have h3 : areWts ws = true ∧ ws.length = 3 := by simpa [okWts] using h2
    have := dot_bd (isItem_vals h1) h3.1 (isItem_len h1) h3.2 3 (by omega)
    omega
  · omega
theorem bestU_bd (L : List Itm) (ids ws : List Int) (n : Nat) : 0 ≤ bestU L ids ws n ∧ bestU L ids ws n ≤ 81 := by
  induction n with
  | zero => simp [bestU]
  | succ n ih =>
    have := utility_bd (gi L (n : Int)) ws
    simp only [bestU]
    split <;> omega

theorem spec_BestUtility_ok {w : World} {v v1 v2 : Value} {L : List Itm} {ids ws : List Int} {fp fp1 fp2 : List Nat} (hL : Sl itemR w v L fp) (hi : Sl intR w v1 ids fp1) (hw : Sl intR w v2 ws fp2) :
    Run Try.prog 120 [v, v1, v2] w (fun r w' => r = .int .i64 (bestUtil L ids ws) ∧ Keep w w') := by
  have hn := hL.le
  obtain ⟨A, n, c, rfl, hnx⟩ := hL.split
  refine Run_intro Try.func120 (by unfold CallOk; kernel_rfl) rfl Try.ntmps120 (Nat.le_of_ble_eq_true rfl) ?_
  simp only [penv, Nat.reduceAdd, Nat.zero_add]
  repeat refine zz ?_
  refine W_loop (S := Nat) (fun k => [(0, .slice A n c), (1, v1), (2, v2), (7, .int .i64 (bestU L ids ws k)), (8, .int .i64 (k : Int))]) (fun k w' => Keep w w' ∧ k ≤ n) (fun k => n - k) 0 ⟨rfl, rfl, rfl, rfl, rfl, trivial⟩ ⟨Keep.refl _, Nat.zero_le _⟩ ?_
  rintro k w1 ⟨hk1, hk⟩
  replace hL := hL.keep hk1
  replace hi := hi.keep hk1
  replace hw := hw.keep hk1
  repeat refine zz ?_
  refine W_cond rfl (fun hc => ?_) (fun hc => ?_)
  · have hkn : k < n := by simp at hc; omega
    obtain ⟨hA, u, f, hcell, hu, _⟩ := item_get hL (i := (k : Int)) (by omega) (by omega)
    have hul := hu
    repeat refine zz ?_
    refine o_call rfl rfl rfl (l2Has_ok hi) ?_
    rintro _ _ ⟨rfl, rfl⟩
    repeat refine zz ?_
    refine W_cond rfl (fun hd => ?_) (fun hd => ?_)
    · repeat refine zz ?_
      refine o_call rfl rfl rfl (spec_UtilityOf_ok hu hw) ?_
      rintro _ w2 ⟨rfl, hk2⟩
      refine WL_pure rfl rfl (o_max rfl rfl) ?_
      repeat refine zz ?_
      exact ⟨k + 1, ⟨rfl, rfl, rfl, find_int rfl (by simp only [bestU]; rw [if_pos hd]), rfl, trivial⟩, ⟨hk1.keep hk2, by omega⟩, by omega⟩
    · repeat refine zz ?_
      exact ⟨k + 1, ⟨rfl, rfl, rfl, find_int rfl (by simp only [bestU]; rw [if_neg (by simp [hd])]), rfl, trivial⟩, ⟨hk1, by omega⟩, by omega⟩
  · simp at hc
    obtain rfl : k = n := by omega
    repeat refine zz ?_
    exact ret1 rfl rfl ⟨by rw [bestUtil, ← hnx], hk1⟩

theorem impl_BestUtility_ok {w : World} {v v1 v2 : Value} {L : List Itm} {ids ws : List Int} {fp fp1 fp2 : List Nat} (hL : Sl itemR w v L fp) (hi : Sl intR w v1 ids fp1) (hw : Sl intR w v2 ws fp2) :
    Run Try.prog 31 [v, v1, v2] w (fun r w' => r = .int .i64 (bestUtil L ids ws) ∧ Keep w w') := by
  have hn := hL.le
  obtain ⟨A, n, c, rfl, hnx⟩ := hL.split
  refine Run_intro Try.func31 (by unfold CallOk; kernel_rfl) rfl Try.ntmps31 (Nat.le_of_ble_eq_true rfl) ?_
  simp only [penv, Nat.reduceAdd, Nat.zero_add]
  repeat refine zz ?_
  refine W_loop (S := Nat) (fun k => [(0, .slice A n c), (1, v1), (2, v2), (7, .int .i64 (bestU L ids ws k)), (10, .slice A n c), (11, .int .i64 n), (12, .int .i64 (k : Int))]) (fun k w' => Keep w w' ∧ k ≤ n) (fun k => n - k) 0 ⟨rfl, rfl, rfl, rfl, rfl, rfl, rfl, trivial⟩ ⟨Keep.refl _, Nat.zero_le _⟩ ?_
  rintro k w1 ⟨hk1, hk⟩
  replace hL := hL.keep hk1
  replace hi := hi.keep hk1
  replace hw := hw.keep hk1
  repeat refine zz ?_
  refine W_cond rfl (fun hc => ?_) (fun hc => ?_)
  · have hkn : k < n := by simp at hc; omega
    obtain ⟨hA, u, f, hcell, hu, _⟩ := item_get hL (i := (k : Int)) (by omega) (by omega)
    have hdu := hu.dom
    have hdi := hi.dom
    have hdw := hw.dom
    have hz1 := hk1.size_le
    repeat refine zz ?_
    refine o_alloc rfl rfl ?_
    intro b2 w2 hal2
    have hb2 := hal2.blk
    have hs2 := hal2.b_eq
    replace hu := hu.keep hal2.kp
    replace hi := hi.keep hal2.kp
    replace hw := hw.keep hal2.kp
    replace hk1 := hk1.keep hal2.kp
    repeat refine zz ?_
    refine o_storeS (b := b2) (off := 0) rfl rfl rfl rfl (fun v hv => ?_) rfl hb2 (by simp) ?_
    · simp only [List.mem_cons, List.not_mem_nil, or_false] at hv
      rcases hv with rfl | rfl
      · rfl
      · exact hu.oneCell
    intro w3 hu3
    have hb3 : Blk w3 b2 _ [.int .i64 (gi L (k : Int)).id, u] := hu3.blk
    replace hk1 := hk1.upd hu3 (by omega)
    replace hu := hu.upd hu3 (fun hm => by have := hdu _ hm; omega)
    replace hi := hi.upd hu3 (fun hm => by have := hdi _ hm; omega)
    replace hw := hw.upd hu3 (fun hm => by have := hdw _ hm; omega)
    repeat refine zz ?_
    refine o_call rfl rfl rfl (slices_Contains_ok hi) ?_
    rintro _ _ ⟨rfl, rfl⟩
    repeat refine zz ?_
    refine W_cond rfl (fun hd => ?_) (fun hd => ?_)
    · repeat refine zz ?_
      refine o_call rfl rfl rfl (impl_UtilityOf_ok hu hw) ?_
      rintro _ w4 ⟨rfl, hk4⟩
      refine WL_pure rfl rfl (o_max rfl rfl) ?_
      repeat refine zz ?_
      exact ⟨k + 1, ⟨rfl, rfl, rfl, find_int rfl (by simp only [bestU]; rw [if_pos hd]), rfl, rfl, rfl, trivial⟩, ⟨hk1.keep hk4, by omega⟩, by omega⟩
    · repeat refine zz ?_
      exact ⟨k + 1, ⟨rfl, rfl, rfl, find_int rfl (by simp only [bestU]; rw [if_neg (by simp [hd])]), rfl, rfl, rfl, trivial⟩, ⟨hk1, by omega⟩, by omega⟩
  · simp at hc
    obtain rfl : k = n := by omega
    repeat refine zz ?_
    exact ret1 rfl rfl ⟨by rw [bestUtil, ← hnx], hk1⟩
end Go.E

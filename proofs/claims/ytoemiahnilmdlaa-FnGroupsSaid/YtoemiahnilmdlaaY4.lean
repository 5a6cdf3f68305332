/-
  Contracts: the choice of a group by a rule. Conditions: as stated.
-/
import Derived.Test.YtoemiahnilmdlaaY3
import Derived.Test.YtoemiahnilmdlaaYb
set_option linter.unusedVariables false
set_option linter.unusedSimpArgs false
namespace Go.E
open Go Go.RowKit Go.Proofs
attribute [local irreducible] W WL WD WE thenE inE retQ PureOp Keep Cell Cells Blk Sl Rows Own Src Fresh
attribute [local irreducible] cmpE isExpr areItems poll votesFor condAt condorcet scoresBy argN allB scoreIf

set_option maxHeartbeats 1000000 in
theorem spec_GroupChoice_ok {w : World} {v u : Value} {L : List Itm} {g : List (List Nod)} {fp gp : List Nat} (hL : Sl itemR w v L fp) (he : Sl (slR nodeR) w u g gp) (q : Int) (hn : g.length + totNS g ≤ 1048576) :
    Run Try.prog 102 [v, u, .int .i64 q] w (fun r w' => r = .int .i64 (groupBy L g q) ∧ Keep w w') := by
  obtain ⟨A, n, c, rfl, hnx⟩ := hL.split
  obtain ⟨Ag, m, cg, rfl, hmg⟩ := he.split
  refine Run_intro Try.func102 (by unfold CallOk; kernel_rfl) rfl Try.ntmps102 (Nat.le_of_ble_eq_true rfl) ?_
  simp only [penv, Nat.reduceAdd, Nat.zero_add]
  repeat refine zz ?_
  refine o_call rfl rfl rfl (l12Fine_ok hL he hn) ?_
  rintro _ w2 ⟨rfl, hk⟩
  replace hL := hL.keep hk
  replace he := he.keep hk
  repeat refine zz ?_
  refine WL_part rfl rfl (fun h => ?_) (fun h => ?_)
  · simp at h
    repeat refine zz ?_
    exact ret1 rfl rfl ⟨by rw [groupBy, h]; rfl, hk⟩
  simp at h
  repeat refine zz ?_
  refine W_cond rfl (fun h0 => ?_) (fun h0 => ?_)
  · simp only [decide_eq_true_eq] at h0
    repeat refine zz ?_
    exact ret1 rfl rfl ⟨by rw [groupBy, h, decide_eq_true (p := L.length = 0) (by omega)]; rfl, hk⟩
  simp only [decide_eq_false_iff_not] at h0
  have hok := poll_ok h
  have hln := hok.2.1
  have hgb : groupBy L g q = if q = 0 then condorcet L g else if q = 1 ∨ q = 2 then (gi L ((argN (scoresBy L g q) L.length : Nat) : Int)).id else -1 := by
    rw [groupBy, h, decide_eq_false (p := L.length = 0) (by omega)]; rfl
  repeat refine zz ?_
  refine o_buildSlice rfl rfl rfl rfl rfl (by intro p hp; cases hp) (by omega) ?_
  intro bO wO halO
  have hkO := halO.kp
  replace hL := hL.keep hkO
  replace he := he.keep hkO
  replace hk := hk.keep hkO
  repeat refine zz ?_
  refine W_cond rfl (fun h1 => ?_) (fun h1 => ?_)
  · simp only [decide_eq_true_eq] at h1
    repeat refine zz ?_
    refine o_call rfl rfl rfl (spec_CondorcetOf_ok hL he hn) ?_
    rintro _ w3 ⟨rfl, hk3⟩
    repeat refine zz ?_
    exact ret1 rfl rfl ⟨by rw [hgb, if_pos h1], hk.keep hk3⟩
  simp only [decide_eq_false_iff_not] at h1
  repeat refine zz ?_
  refine W_cond rfl (fun h2 => ?_) (fun h2 => ?_)
  · simp only [decide_eq_true_eq] at h2
    repeat refine zz ?_
    refine o_call rfl rfl rfl (spec_BordaScores_ok hL he hn) ?_
    rintro v3 w3 ⟨hk3, f3, hs3, hf3⟩
    replace hL := hL.keep hk3
    replace he := he.keep hk3
    replace hk := hk.keep hk3
    have hse : scoresBy L g q = scoreIf (poll L g) L (fun i => bordN L g i g.length) := by rw [scoresBy, if_pos h2]
    rw [← hse] at hs3
    have hsl := scoresBy_len h q
    obtain ⟨A3, n3, c3, rfl, hn3⟩ := hs3.split
    obtain rfl : n3 = n := by omega
    repeat refine zz ?_
    refine W_loop (S := Nat) (fun j => [(0, .slice A n3 c), (7, .slice A3 n3 c3), (8, .int .i64 (argN (scoresBy L g q) j : Nat)), (9, .int .i64 (j : Int))]) (fun j w' => Keep w3 w' ∧ j ≤ n3) (fun j => n3 - j) 0 ⟨rfl, rfl, find_int rfl (by unfold argN; rfl), rfl, trivial⟩ ⟨Keep.refl _, Nat.zero_le _⟩ ?_
    rintro j wb ⟨hkb, hj⟩
    have hal := argN_lt (scoresBy L g q) j n3 hj (by omega)
    have hss := argN_succ (scoresBy L g q) j
    have hsb := hs3.keep hkb
    repeat refine zz ?_
    refine W_cond rfl (fun hc => ?_) (fun hc => ?_)
    · have hjl : j < n3 := by simp at hc; omega
      obtain ⟨hA1, hc1⟩ := hsb.getI (i := (j : Int)) (by omega) (by omega)
      obtain ⟨_, hc2⟩ := hsb.getI (i := ((argN (scoresBy L g q) j : Nat) : Int)) (by omega) (by omega)
      repeat refine zz ?_
      refine W_quiet (Keep wb) (by kernel_rfl) (by kernel_rfl) (Keep.drew _) ?_
      repeat refine qq ?_
      intro wd hkd 
      repeat refine zz ?_
      refine W_cond rfl (fun hd => ?_) (fun hd => ?_)
      · simp only [decide_eq_true_eq] at hd
        repeat refine zz ?_
        exact ⟨j + 1, ⟨rfl, rfl, find_int rfl (by rw [hss, if_pos hd]), rfl, trivial⟩, ⟨hkb.keep hkd, by omega⟩, by omega⟩
      · simp only [decide_eq_false_iff_not] at hd
        repeat refine zz ?_
        exact ⟨j + 1, ⟨rfl, rfl, find_int rfl (by rw [hss, if_neg hd]), rfl, trivial⟩, ⟨hkb.keep hkd, by omega⟩, by omega⟩
    · simp at hc
      obtain rfl : j = n3 := by omega
      obtain ⟨hA1, u1, f1, hcell1, hu1, _⟩ := item_get (hL.keep hkb) (i := ((argN (scoresBy L g q) j : Nat) : Int)) (by omega) (by omega)
      repeat refine zz ?_
      exact ret1 rfl rfl ⟨by rw [hgb, if_neg h1, if_pos (by omega), ← hnx], hk.keep hkb⟩
  simp only [decide_eq_false_iff_not] at h2
  repeat refine zz ?_
  refine W_cond rfl (fun h3 => ?_) (fun h3 => ?_)
  · simp only [decide_eq_true_eq] at h3
    repeat refine zz ?_
    refine o_call rfl rfl rfl (spec_ApprovalScores_ok hL he hn) ?_
    rintro v3 w3 ⟨hk3, f3, hs3, hf3⟩
    replace hL := hL.keep hk3
    replace he := he.keep hk3
    replace hk := hk.keep hk3
    have hse : scoresBy L g q = scoreIf (poll L g) L (fun i => apprN L g i g.length) := by rw [scoresBy, if_neg h2]
    rw [← hse] at hs3
    have hsl := scoresBy_len h q
    obtain ⟨A3, n3, c3, rfl, hn3⟩ := hs3.split
    obtain rfl : n3 = n := by omega
    repeat refine zz ?_
    refine W_loop (S := Nat) (fun j => [(0, .slice A n3 c), (7, .slice A3 n3 c3), (8, .int .i64 (argN (scoresBy L g q) j : Nat)), (9, .int .i64 (j : Int))]) (fun j w' => Keep w3 w' ∧ j ≤ n3) (fun j => n3 - j) 0 ⟨rfl, rfl, find_int rfl (by unfold argN; rfl), rfl, trivial⟩ ⟨Keep.refl _, Nat.zero_le _⟩ ?_
    rintro j wb ⟨hkb, hj⟩
    have hal := argN_lt (scoresBy L g q) j n3 hj (by omega)
    have hss := argN_succ (scoresBy L g q) j
    have hsb := hs3.keep hkb
    repeat refine zz ?_
    refine W_cond rfl (fun hc => ?_) (fun hc => ?_)
    · have hjl : j < n3 := by simp at hc; omega
      obtain ⟨hA1, hc1⟩ := hsb.getI (i := (j : Int)) (by omega) (by omega)
      obtain ⟨_, hc2⟩ := hsb.getI (i := ((argN (scoresBy L g q) j : Nat) : Int)) (by omega) (by omega)
      repeat refine zz ?_
      refine W_quiet (Keep wb) (by kernel_rfl) (by kernel_rfl) (Keep.drew _) ?_
      repeat refine qq ?_
      intro wd hkd 
      repeat refine zz ?_
      refine W_cond rfl (fun hd => ?_) (fun hd => ?_)
      · simp only [decide_eq_true_eq] at hd
        repeat refine zz ?_
        exact ⟨j + 1, ⟨rfl, rfl, find_int rfl (by rw [hss, if_pos hd]), rfl, trivial⟩, ⟨hkb.keep hkd, by omega⟩, by omega⟩
      · simp only [decide_eq_false_iff_not] at hd
        repeat refine zz ?_
        exact ⟨j + 1, ⟨rfl, rfl, find_int rfl (by rw [hss, if_neg hd]), rfl, trivial⟩, ⟨hkb.keep hkd, by omega⟩, by omega⟩
    · simp at hc
      obtain rfl : j = n3 := by omega
      obtain ⟨hA1, u1, f1, hcell1, hu1, _⟩ := item_get (hL.keep hkb) (i := ((argN (scoresBy L g q) j : Nat) : Int)) (by omega) (by omega)
      repeat refine zz ?_
      exact ret1 rfl rfl ⟨by rw [hgb, if_neg h1, if_pos (by omega), ← hnx], hk.keep hkb⟩
  simp only [decide_eq_false_iff_not] at h3
  repeat refine zz ?_
  exact ret1 rfl rfl ⟨by rw [hgb, if_neg h1, if_neg (by omega)], hk⟩
set_option maxHeartbeats 1000000 in
theorem impl_GroupChoice_ok {w : World} {v u : Value} {L : List Itm} {g : List (List Nod)} {fp gp : List Nat} (hL : Sl itemR w v L fp) (he : Sl (slR nodeR) w u g gp) (q : Int) (hn : g.length + totNS g ≤ 1048576) :
    Run Try.prog 93 [v, u, .int .i64 q] w (fun r w' => r = .int .i64 (groupBy L g q) ∧ Keep w w') := by
  obtain ⟨A, n, c, rfl, hnx⟩ := hL.split
  obtain ⟨Ag, m, cg, rfl, hmg⟩ := he.split
  refine Run_intro Try.func93 (by unfold CallOk; kernel_rfl) rfl Try.ntmps93 (Nat.le_of_ble_eq_true rfl) ?_
  simp only [penv, Nat.reduceAdd, Nat.zero_add]
  repeat refine zz ?_
  refine o_call rfl rfl rfl (isPoll_ok hL he hn) ?_
  rintro _ w2 ⟨rfl, hk⟩
  replace hL := hL.keep hk
  replace he := he.keep hk
  repeat refine zz ?_
  refine WL_part rfl rfl (fun h => ?_) (fun h => ?_)
  · simp at h
    repeat refine zz ?_
    exact ret1 rfl rfl ⟨by rw [groupBy, h]; rfl, hk⟩
  simp at h
  repeat refine zz ?_
  refine W_cond rfl (fun h0 => ?_) (fun h0 => ?_)
  · simp only [decide_eq_true_eq] at h0
    repeat refine zz ?_
    exact ret1 rfl rfl ⟨by rw [groupBy, h, decide_eq_true (p := L.length = 0) (by omega)]; rfl, hk⟩
  simp only [decide_eq_false_iff_not] at h0
  have hok := poll_ok h
  have hln := hok.2.1
  have hgb : groupBy L g q = if q = 0 then condorcet L g else if q = 1 ∨ q = 2 then (gi L ((argN (scoresBy L g q) L.length : Nat) : Int)).id else -1 := by
    rw [groupBy, h, decide_eq_false (p := L.length = 0) (by omega)]; rfl
  repeat refine zz ?_
  refine o_buildSlice rfl rfl rfl rfl rfl (by intro p hp; cases hp) (by omega) ?_
  intro bO wO halO
  have hkO := halO.kp
  replace hL := hL.keep hkO
  replace he := he.keep hkO
  replace hk := hk.keep hkO
  repeat refine zz ?_
  refine W_cond rfl (fun h1 => ?_) (fun h1 => ?_)
  · simp only [decide_eq_true_eq] at h1
    repeat refine zz ?_
    refine o_call rfl rfl rfl (impl_CondorcetOf_ok hL he hn) ?_
    rintro _ w3 ⟨rfl, hk3⟩
    repeat refine zz ?_
    exact ret1 rfl rfl ⟨by rw [hgb, if_pos h1], hk.keep hk3⟩
  simp only [decide_eq_false_iff_not] at h1
  repeat refine zz ?_
  refine W_cond rfl (fun h2 => ?_) (fun h2 => ?_)
  · simp only [decide_eq_true_eq] at h2
    repeat refine zz ?_
    refine o_call rfl rfl rfl (impl_BordaScores_ok hL he hn) ?_
    rintro v3 w3 ⟨hk3, f3, hs3, hf3⟩
    replace hL := hL.keep hk3
    replace he := he.keep hk3
    replace hk := hk.keep hk3
    have hse : scoresBy L g q = scoreIf (poll L g) L (fun i => bordN L g i g.length) := by rw [scoresBy, if_pos h2]
    rw [← hse] at hs3
    have hsl := scoresBy_len h q
    obtain ⟨A3, n3, c3, rfl, hn3⟩ := hs3.split
    obtain rfl : n3 = n := by omega
    repeat refine zz ?_
    refine W_loop (S := Nat) (fun j => [(0, .slice A n3 c), (7, .slice A3 n3 c3), (8, .int .i64 (argN (scoresBy L g q) j : Nat)), (37, .slice A3 n3 c3), (38, .int .i64 n3), (39, .int .i64 (j : Int))]) (fun j w' => Keep w3 w' ∧ j ≤ n3) (fun j => n3 - j) 0 ⟨rfl, rfl, find_int rfl (by unfold argN; rfl), rfl, rfl, rfl, trivial⟩ ⟨Keep.refl _, Nat.zero_le _⟩ ?_
    rintro j wb ⟨hkb, hj⟩
    have hal := argN_lt (scoresBy L g q) j n3 hj (by omega)
    have hss := argN_succ (scoresBy L g q) j
    have hsb := hs3.keep hkb
    repeat refine zz ?_
    refine W_cond rfl (fun hc => ?_) (fun hc => ?_)
    · have hjl : j < n3 := by simp at hc; omega
      obtain ⟨hA1, hc1⟩ := hsb.getI (i := (j : Int)) (by omega) (by omega)
      obtain ⟨_, hc2⟩ := hsb.getI (i := ((argN (scoresBy L g q) j : Nat) : Int)) (by omega) (by omega)
      repeat refine zz ?_

      refine W_cond rfl (fun hd => ?_) (fun hd => ?_)
      · simp only [decide_eq_true_eq] at hd
        repeat refine zz ?_
        exact ⟨j + 1, ⟨rfl, rfl, find_int rfl (by rw [hss, if_pos hd]), rfl, rfl, rfl, trivial⟩, ⟨hkb, by omega⟩, by omega⟩
      · simp only [decide_eq_false_iff_not] at hd
        repeat refine zz ?_
        exact ⟨j + 1, ⟨rfl, rfl, find_int rfl (by rw [hss, if_neg hd]), rfl, rfl, rfl, trivial⟩, ⟨hkb, by omega⟩, by omega⟩
    · simp at hc
      obtain rfl : j = n3 := by omega
      obtain ⟨hA1, u1, f1, hcell1, hu1, _⟩ := item_get (hL.keep hkb) (i := ((argN (scoresBy L g q) j : Nat) : Int)) (by omega) (by omega)
      repeat refine zz ?_
      exact ret1 rfl rfl ⟨by rw [hgb, if_neg h1, if_pos (by omega), ← hnx], hk.keep hkb⟩
  simp only [decide_eq_false_iff_not] at h2
  repeat refine zz ?_
  refine W_cond rfl (fun h3 => ?_) (fun h3 => ?_)
  · simp only [decide_eq_true_eq] at h3
    repeat refine zz ?_
    refine o_call rfl rfl rfl (impl_ApprovalScores_ok hL he hn) ?_
    rintro v3 w3 ⟨hk3, f3, hs3, hf3⟩
    replace hL := hL.keep hk3
    replace he := he.keep hk3
    replace hk := hk.keep hk3
    have hse : scoresBy L g q = scoreIf (poll L g) L (fun i => apprN L g i g.length) := by rw [scoresBy, if_neg h2]
    rw [← hse] at hs3
    have hsl := scoresBy_len h q
    obtain ⟨A3, n3, c3, rfl, hn3⟩ := hs3.split
    obtain rfl : n3 = n := by omega
    repeat refine zz ?_
    refine W_loop (S := Nat) (fun j => [(0, .slice A n3 c), (7, .slice A3 n3 c3), (8, .int .i64 (argN (scoresBy L g q) j : Nat)), (37, .slice A3 n3 c3), (38, .int .i64 n3), (39, .int .i64 (j : Int))]) (fun j w' => Keep w3 w' ∧ j ≤ n3) (fun j => n3 - j) 0 ⟨rfl, rfl, find_int rfl (by unfold argN; rfl), rfl, rfl, rfl, trivial⟩ ⟨Keep.refl _, Nat.zero_le _⟩ ?_
    rintro j wb ⟨hkb, hj⟩
    have hal := argN_lt (scoresBy L g q) j n3 hj (by omega)
    have hss := argN_succ (scoresBy L g q) j
    have hsb := hs3.keep hkb
    repeat refine zz ?_
    refine W_cond rfl (fun hc => ?_) (fun hc => ?_)
    · have hjl : j < n3 := by simp at hc; omega
      obtain ⟨hA1, hc1⟩ := hsb.getI (i := (j : Int)) (by omega) (by omega)
      obtain ⟨_, hc2⟩ := hsb.getI (i := ((argN (scoresBy L g q) j : Nat) : Int)) (by omega) (by omega)
      repeat refine zz ?_

      refine W_cond rfl (fun hd => ?_) (fun hd => ?_)
      · simp only [decide_eq_true_eq] at hd
        repeat refine zz ?_
        exact ⟨j + 1, ⟨rfl, rfl, find_int rfl (by rw [hss, if_pos hd]), rfl, rfl, rfl, trivial⟩, ⟨hkb, by omega⟩, by omega⟩
      · simp only [decide_eq_false_iff_not] at hd
        repeat refine zz ?_
        exact ⟨j + 1, ⟨rfl, rfl, find_int rfl (by rw [hss, if_neg hd]), rfl, rfl, rfl, trivial⟩, ⟨hkb, by omega⟩, by omega⟩
    · simp at hc
      obtain rfl : j = n3 := by omega
      obtain ⟨hA1, u1, f1, hcell1, hu1, _⟩ := item_get (hL.keep hkb) (i := ((argN (scoresBy L g q) j : Nat) : Int)) (by omega) (by omega)
      repeat refine zz ?_
      exact ret1 rfl rfl ⟨by rw [hgb, if_neg h1, if_pos (by omega), ← hnx], hk.keep hkb⟩
  simp only [decide_eq_false_iff_not] at h3
  repeat refine zz ?_
  exact ret1 rfl rfl ⟨by rw [hgb, if_neg h1, if_neg (by omega)], hk⟩
end Go.E

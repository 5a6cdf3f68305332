/-
  Contracts: the winner against each other item, and the choice of a group by a rule. Conditions: as stated.
-/
import Derived.Test.YtoemiahnilmdlaaY0
set_option linter.unusedVariables false
set_option linter.unusedSimpArgs false
namespace Go.E
open Go Go.RowKit Go.Proofs
def duelAt (L : List Itm) (g : List (List Nod)) (i k : Nat) : Bool := decide (i = k) || decide (votesFor L g (gi L (k : Int)).id (gi L (i : Int)).id < votesFor L g (gi L (i : Int)).id (gi L (k : Int)).id)
def condAt (L : List Itm) (g : List (List Nod)) (i : Nat) : Bool := allB L.length (duelAt L g i)
def condorcet (L : List Itm) (g : List (List Nod)) : Int := if poll L g then (match (List.range L.length).find? (condAt L g) with | some i => (gi L (i : Int)).id | none => -1) else -1
theorem condorcet_at {L : List Itm} {g : List (List Nod)} (h : poll L g = true) {k : Nat} (hk : k < L.length) (ha : ∀ i, i < k → condAt L g i = false) (h1 : condAt L g k = true) : condorcet L g = (gi L (k : Int)).id := by
  have e : (List.range L.length).find? (condAt L g) = some k := by
    rw [List.find?_range_eq_some]
    exact ⟨h1, by simpa using hk, fun j hj => by simp [ha j hj]⟩
  rw [condorcet, if_pos h, e]
theorem condorcet_no {L : List Itm} {g : List (List Nod)} (ha : poll L g = true → ∀ i, i < L.length → condAt L g i = false) : condorcet L g = -1 := by
  rw [condorcet]
  split
  · rename_i h
    have e : (List.range L.length).find? (condAt L g) = none := by
      rw [List.find?_range_eq_none]
      intro i hi; simp [ha h i hi]
    rw [e]
  · rfl
theorem ids_lt {L : List Itm} (h : areItems L = true) {i k : Nat} (hik : i < k) (hk : k < L.length) : (gi L (i : Int)).id < (gi L (k : Int)).id := by
  simp only [areItems, Bool.and_eq_true] at h
  have at_ : ∀ i, i < L.length → itAt L i = true := fun i hi => List.all_eq_true.1 h.1 i (by simpa using hi)
  induction k with
  | zero => omega
  | succ k ih =>
    have h1 := at_ (k + 1) hk
    simp only [itAt, Bool.and_eq_true, Bool.or_eq_true, decide_eq_true_eq] at h1
    have h2 : (gi L (k : Int)).id < (gi L ((k + 1 : Nat) : Int)).id := by
      have := h1.2.resolve_left (by omega)
      rwa [show (((k + 1 : Nat) : Int) - 1) = (k : Int) by omega] at this
    rcases Nat.lt_or_ge i k with hc | hc
    · have := ih hc (by omega); omega
    · obtain rfl : i = k := by omega
      exact h2
theorem ids_eq {L : List Itm} (h : areItems L = true) {i k : Nat} (hi : i < L.length) (hk : k < L.length) : decide ((gi L (i : Int)).id = (gi L (k : Int)).id) = decide (i = k) := by
  rcases Nat.lt_trichotomy i k with hc | hc | hc
  · have := ids_lt h hc hk
    rw [decide_eq_false (by omega), decide_eq_false (by omega)]
  · subst hc; simp
  · have := ids_lt h hc hi
    rw [decide_eq_false (by omega), decide_eq_false (by omega)]
def argN (s : List Int) : Nat → Nat
  | 0 => 0
  | n + 1 => if gi s ((argN s n : Nat) : Int) < gi s (n : Int) then n else argN s n
theorem argN_succ (s : List Int) (n : Nat) : argN s (n + 1) = if gi s ((argN s n : Nat) : Int) < gi s (n : Int) then n else argN s n := rfl
theorem argN_lt (s : List Int) (n m : Nat) (h : n ≤ m) (h0 : 0 < m) : argN s n < m := by
  induction n with
  | zero => exact h0
  | succ n ih =>
    have := ih (by omega)
    simp only [argN]; split <;> omega
def scoresBy (L : List Itm) (g : List (List Nod)) (r : Int) : List Int := if r = 1 then scoreIf (poll L g) L (fun i => bordN L g i g.length) else scoreIf (poll L g) L (fun i => apprN L g i g.length)
theorem scoresBy_len {L : List Itm} {g : List (List Nod)} (h : poll L g = true) (r : Int) : (scoresBy L g r).length = L.length := by
  unfold scoresBy scoreIf
  rw [if_pos h, if_pos h]
  split <;> rw [scoreN_len]
def groupBy (L : List Itm) (g : List (List Nod)) (r : Int) : Int :=
  if !poll L g || decide (L.length = 0) then -1 else if r = 0 then condorcet L g else if r = 1 ∨ r = 2 then (gi L ((argN (scoresBy L g r) L.length : Nat) : Int)).id else -1
attribute [local irreducible] W WL WD WE thenE inE retQ PureOp Keep Cell Cells Blk Sl Rows Own Src Fresh
attribute [local irreducible] cmpE isExpr areItems poll votesFor condAt condorcet scoresBy argN allB

set_option maxHeartbeats 1000000 in
theorem spec_CondorcetOf_ok {w : World} {v u : Value} {L : List Itm} {g : List (List Nod)} {fp gp : List Nat} (hL : Sl itemR w v L fp) (he : Sl (slR nodeR) w u g gp) (hn : g.length + totNS g ≤ 1048576) :
    Run Try.prog 88 [v, u] w (fun r w' => r = .int .i64 (condorcet L g) ∧ Keep w w') := by
  obtain ⟨A, n, c, rfl, hnx⟩ := hL.split
  obtain ⟨Ag, m, cg, rfl, hmg⟩ := he.split
  refine Run_intro Try.func88 (by unfold CallOk; kernel_rfl) rfl Try.ntmps88 (Nat.le_of_ble_eq_true rfl) ?_
  simp only [penv, Nat.reduceAdd, Nat.zero_add]
  repeat refine zz ?_
  refine W_loop (S := Nat) (fun k => [(0, .slice A n c), (1, .slice Ag m cg), (5, .int .i64 (k : Int))]) (fun k w' => Keep w w' ∧ k ≤ n ∧ ∀ i, i < k → condAt L g i = false) (fun k => n - k) 0 ⟨rfl, rfl, rfl, trivial⟩ ⟨Keep.refl _, Nat.zero_le _, fun i hi => absurd hi (by omega)⟩ ?_
  rintro k wa ⟨hka, hkn, hall⟩
  repeat refine zz ?_
  refine WL_part rfl rfl (fun hc => ?_) (fun hc => ?_)
  · have hkl : k < n := by simp at hc; omega
    repeat refine zz ?_
    refine o_call rfl rfl rfl (l12Fine_ok (hL.keep hka) (he.keep hka) hn) ?_
    rintro _ w2 ⟨rfl, hk2⟩
    replace hka := hka.keep hk2
    repeat refine zz ?_
    refine W_cond rfl (fun h => ?_) (fun h => ?_)
    · have hok := poll_ok h
      have hln := hok.2.1
      repeat refine zz ?_
      refine W_loop (S := Nat) (fun j => [(0, .slice A n c), (1, .slice Ag m cg), (5, .int .i64 (k : Int)), (6, .bool (allB j (duelAt L g k))), (7, .int .i64 (j : Int))]) (fun j w' => Keep w2 w' ∧ j ≤ n) (fun j => n - j) 0 ⟨rfl, rfl, rfl, find_val rfl (by unfold allB; rfl), rfl, trivial⟩ ⟨Keep.refl _, Nat.zero_le _⟩ ?_
      rintro j wb ⟨hkb, hj⟩
      have hkc := hka.keep hkb
      have hLb := hL.keep hkc
      have hgb := he.keep hkc
      repeat refine zz ?_
      refine W_cond rfl (fun hcj => ?_) (fun hcj => ?_)
      · have hjl : j < n := by simp at hcj; omega
        obtain ⟨hA1, u1, f1, hcell1, hu1, _⟩ := item_get hLb (i := (k : Int)) (by omega) (by omega)
        obtain ⟨_, u3, f3, hcell3, hu3, _⟩ := item_get hLb (i := (j : Int)) (by omega) (by omega)
        have hsu := allB_succ j (duelAt L g k)
        repeat refine zz ?_
        refine W_quiet (Keep wb) (by kernel_rfl) (by kernel_rfl) (Keep.drew _) ?_
        repeat refine qq ?_
        refine WQ_part rfl rfl (fun h9 => ?_) (fun h9 => ?_)
        · repeat refine qq ?_
          refine WQ_part rfl rfl (fun h8 => ?_) (fun h8 => ?_)
          · simp only [decide_eq_true_eq] at h8
            repeat refine qq ?_
            intro wd hkd 
            repeat refine zz ?_
            exact ⟨j + 1, ⟨rfl, rfl, rfl, find_val rfl (by rw [hsu, h9, duelAt, decide_eq_true (p := k = j) (by omega)]; rfl), rfl, trivial⟩, ⟨hkb.keep hkd, by omega⟩, by omega⟩
          · simp only [decide_eq_false_iff_not] at h8
            repeat refine qq ?_
            refine WQ_call rfl rfl rfl (fun w' hw' => (spec_VotesFor_ok (hLb.keep hw') (hgb.keep hw') _ _ hn).kk hw') ?_
            repeat refine qq ?_
            refine WQ_call rfl rfl rfl (fun w' hw' => (spec_VotesFor_ok (hLb.keep hw') (hgb.keep hw') _ _ hn).kk hw') ?_
            repeat refine qq ?_
            intro wd hkd 
            repeat refine zz ?_
            exact ⟨j + 1, ⟨rfl, rfl, rfl, find_val rfl (by rw [hsu, h9, duelAt, decide_eq_false (p := k = j) (by omega)]; rfl), rfl, trivial⟩, ⟨hkb.keep hkd, by omega⟩, by omega⟩
        · repeat refine qq ?_
          intro wd hkd 
          repeat refine zz ?_
          exact ⟨j + 1, ⟨rfl, rfl, rfl, find_val rfl (by rw [hsu, h9]; rfl), rfl, trivial⟩, ⟨hkb.keep hkd, by omega⟩, by omega⟩
      · simp at hcj
        obtain rfl : j = n := by omega
        obtain ⟨hA1, u1, f1, hcell1, hu1, _⟩ := item_get hLb (i := (k : Int)) (by omega) (by omega)
        have hca : condAt L g k = allB j (duelAt L g k) := by rw [condAt, hnx]
        rw [← hca]
        repeat refine zz ?_
        refine W_cond rfl (fun hd => ?_) (fun hd => ?_)
        · repeat refine zz ?_
          exact ret1 rfl rfl ⟨by rw [condorcet_at h (by omega) hall hd], hkc⟩
        · repeat refine zz ?_
          exact ⟨k + 1, ⟨rfl, rfl, rfl, trivial⟩, ⟨hkc, by omega, fun i hi => by
            rcases Nat.lt_or_ge i k with h1 | h1
            · exact hall i h1
            · obtain rfl : i = k := by omega
              exact hd⟩, by omega⟩
    · repeat refine zz ?_
      exact ret1 rfl rfl ⟨by rw [condorcet_no (fun h1 => by rw [h] at h1; cases h1)], hka⟩
  · simp at hc
    obtain rfl : k = n := by omega
    repeat refine zz ?_
    exact ret1 rfl rfl ⟨by rw [condorcet_no (fun _ i hi => hall i (by omega))], hka⟩

set_option maxHeartbeats 1000000 in
theorem impl_CondorcetOf_ok {w : World} {v u : Value} {L : List Itm} {g : List (List Nod)} {fp gp : List Nat} (hL : Sl itemR w v L fp) (he : Sl (slR nodeR) w u g gp) (hn : g.length + totNS g ≤ 1048576) :
    Run Try.prog 85 [v, u] w (fun r w' => r = .int .i64 (condorcet L g) ∧ Keep w w') := by
  obtain ⟨A, n, c, rfl, hnx⟩ := hL.split
  obtain ⟨Ag, m, cg, rfl, hmg⟩ := he.split
  refine Run_intro Try.func85 (by unfold CallOk; kernel_rfl) rfl Try.ntmps85 (Nat.le_of_ble_eq_true rfl) ?_
  simp only [penv, Nat.reduceAdd, Nat.zero_add]
  repeat refine zz ?_
  refine o_call rfl rfl rfl (isPoll_ok hL he hn) ?_
  rintro _ w2 ⟨rfl, hk⟩
  repeat refine zz ?_
  refine W_cond rfl (fun h => ?_) (fun h => ?_)
  · simp at h
    repeat refine zz ?_
    exact ret1 rfl rfl ⟨by rw [condorcet_no (fun h1 => by rw [h] at h1; cases h1)], hk⟩
  simp at h
  have hok := poll_ok h
  have hln := hok.2.1
  have hai : areItems L = true := by unfold poll at h; simp only [Bool.and_eq_true] at h; exact h.1
  repeat refine zz ?_
  refine W_loop (S := Nat) (fun k => [(0, .slice A n c), (1, .slice Ag m cg), (14, .slice A n c), (15, .int .i64 n), (16, .int .i64 (k : Int))]) (fun k w' => Keep w w' ∧ k ≤ n ∧ ∀ i, i < k → condAt L g i = false) (fun k => n - k) 0 ⟨rfl, rfl, rfl, rfl, rfl, trivial⟩ ⟨hk, Nat.zero_le _, fun i hi => absurd hi (by omega)⟩ ?_
  clear hk
  rintro k wa ⟨hka, hkn, hall⟩
  repeat refine zz ?_
  refine W_cond rfl (fun hc => ?_) (fun hc => ?_)
  · have hkl : k < n := by simp at hc; omega
    obtain ⟨hA, u2, f2, hcell, hu2, _⟩ := item_get (hL.keep hka) (i := (k : Int)) (by omega) (by omega)
    have o2 := hu2.oneCell
    repeat refine zz ?_
    refine o_alloc rfl rfl ?_
    intro bR wR halR
    have hbR0 := halR.blk
    repeat refine zz ?_
    refine o_storeS (b := bR) (off := 0) rfl rfl rfl rfl (by repeat (first | exact ones_nil | refine ones_cons (by first | rfl | assumption) ?_)) rfl hbR0 (by simp) ?_
    intro wS huS
    have hbR : Blk wS bR _ [.int .i64 (gi L (k : Int)).id, u2] := huS.blk
    have hkS := halR.kp.upd huS (Nat.le_of_eq halR.b_eq.symm)
    have hRe := halR.b_eq
    clear hbR0 huS halR
    replace hka := hka.keep hkS
    clear hcell
    have hb2 := hbR
    clear hbR hRe hkS
    repeat refine zz ?_
    refine W_loop (S := Nat) (fun j => [(0, .slice A n c), (1, .slice Ag m cg), (14, .slice A n c), (15, .int .i64 n), (16, .int .i64 (k : Int)), (6, .pointer (some ⟨bR, 0, none⟩)), (7, .bool (allB j (duelAt L g k))), (20, .slice A n c), (21, .int .i64 n), (22, .int .i64 (j : Int))]) (fun j w' => Keep wS w' ∧ j ≤ n) (fun j => n - j) 0 ⟨rfl, rfl, rfl, rfl, rfl, rfl, find_val rfl (by unfold allB; rfl), rfl, rfl, rfl, trivial⟩ ⟨Keep.refl _, Nat.zero_le _⟩ ?_
    rintro j wb ⟨hkb, hj⟩
    repeat refine zz ?_
    refine W_cond rfl (fun hcj => ?_) (fun hcj => ?_)
    · have hjl : j < n := by simp at hcj; omega
      obtain ⟨hA1, u1, f1, hcell1, hu1, _⟩ := item_get (hL.keep (hka.keep hkb)) (i := (j : Int)) (by omega) (by omega)
      have o1 := hu1.oneCell
      have hsu := allB_succ j (duelAt L g k)
      have hid := ids_eq hai (i := k) (k := j) (by omega) (by omega)
      repeat refine zz ?_
      refine o_alloc rfl rfl ?_
      intro bR2 wR2 halR2
      have hbR02 := halR2.blk
      repeat refine zz ?_
      refine o_storeS (b := bR2) (off := 0) rfl rfl rfl rfl (by repeat (first | exact ones_nil | refine ones_cons (by first | rfl | assumption) ?_)) rfl hbR02 (by simp) ?_
      intro wS2 huS2
      have hbR2 : Blk wS2 bR2 _ [.int .i64 (gi L (j : Int)).id, u1] := huS2.blk
      have hkS2 := halR2.kp.upd huS2 (Nat.le_of_eq halR2.b_eq.symm)
      have hRe2 := halR2.b_eq
      clear hbR02 huS2 halR2
      replace hkb := hkb.keep hkS2
      clear hkS2 hcell1
      have hLb := hL.keep (hka.keep hkb)
      have hgb := he.keep (hka.keep hkb)
      have hbO := hb2.keep hkb
      repeat refine zz ?_
      refine W_quiet (Keep wS2) (by kernel_rfl) (by kernel_rfl) (Keep.drew _) ?_
      repeat refine qq ?_
      refine WQ_part rfl rfl (fun h9 => ?_) (fun h9 => ?_)
      · repeat refine qq ?_
        refine WQ_part rfl rfl (fun h8 => ?_) (fun h8 => ?_)
        · rw [hid] at h8
          repeat refine qq ?_
          intro wd hkd 
          repeat refine zz ?_
          exact ⟨j + 1, ⟨rfl, rfl, rfl, rfl, rfl, rfl, find_val rfl (by rw [hsu, h9, duelAt, h8]; rfl), rfl, rfl, rfl, trivial⟩, ⟨hkb.keep hkd, by omega⟩, by omega⟩
        · rw [hid] at h8
          repeat refine qq ?_
          refine WQ_call rfl rfl rfl (fun w' hw' => (impl_VotesFor_ok (hLb.keep hw') (hgb.keep hw') _ _ hn).kk hw') ?_
          repeat refine qq ?_
          refine WQ_call rfl rfl rfl (fun w' hw' => (impl_VotesFor_ok (hLb.keep hw') (hgb.keep hw') _ _ hn).kk hw') ?_
          repeat refine qq ?_
          intro wd hkd 
          repeat refine zz ?_
          exact ⟨j + 1, ⟨rfl, rfl, rfl, rfl, rfl, rfl, find_val rfl (by rw [hsu, h9, duelAt, h8]; rfl), rfl, rfl, rfl, trivial⟩, ⟨hkb.keep hkd, by omega⟩, by omega⟩
      · repeat refine qq ?_
        intro wd hkd 
        repeat refine zz ?_
        exact ⟨j + 1, ⟨rfl, rfl, rfl, rfl, rfl, rfl, find_val rfl (by rw [hsu, h9]; rfl), rfl, rfl, rfl, trivial⟩, ⟨hkb.keep hkd, by omega⟩, by omega⟩
    · simp at hcj
      obtain rfl : j = n := by omega
      have hbO := hb2.keep hkb
      have hca : condAt L g k = allB j (duelAt L g k) := by rw [condAt, hnx]
      rw [← hca]
      repeat refine zz ?_
      refine W_cond rfl (fun hd => ?_) (fun hd => ?_)
      · repeat refine zz ?_
        exact ret1 rfl rfl ⟨by rw [condorcet_at h (by omega) hall hd], hka.keep hkb⟩
      · repeat refine zz ?_
        exact ⟨k + 1, ⟨rfl, rfl, rfl, rfl, rfl, trivial⟩, ⟨hka.keep hkb, by omega, fun i hi => by
          rcases Nat.lt_or_ge i k with h1 | h1
          · exact hall i h1
          · obtain rfl : i = k := by omega
            exact hd⟩, by omega⟩
  · simp at hc
    obtain rfl : k = n := by omega
    repeat refine zz ?_
    exact ret1 rfl rfl ⟨by rw [condorcet_no (fun _ i hi => hall i (by omega))], hka⟩
end Go.E

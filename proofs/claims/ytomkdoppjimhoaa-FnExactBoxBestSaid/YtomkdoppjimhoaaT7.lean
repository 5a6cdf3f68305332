/-
  Contracts: values below others, the corner of a box, by the reference and by the program. Conditions: as stated.
-/
import Derived.Test.YtomkdoppjimhoaaT6
import Derived.Test.YtomkdoppjimhoaaT2
import Derived.Test.YtomkdoppjimhoaaSt
set_option linter.unusedVariables false
set_option linter.unusedSimpArgs false
namespace Go.E
open Go Go.RowKit Go.Proofs
def lessN (f a b : List Int) (k : Nat) : Bool := exB k fun i => decide (gi a (gi f (i : Int)) < gi b (gi f (i : Int)))
theorem lessN_succ (f a b : List Int) (k : Nat) : lessN f a b (k + 1) = (lessN f a b k || decide (gi a (gi f (k : Int)) < gi b (gi f (k : Int)))) := by
  unfold lessN exB
  rw [allB_succ]
  simp only [Bool.not_and, Bool.not_not]
theorem lwr_eq (f a b : List Int) : lwr f a b = ((allB f.length fun k => decide (gi a (gi f (k : Int)) ≤ gi b (gi f (k : Int)))) && lessN f a b f.length) := rfl
attribute [local irreducible] W WL WD WE thenE inE retQ PureOp Keep Cell Cells Blk Sl Rows Own Src Fresh
attribute [local irreducible] lessN

set_option maxHeartbeats 1000000 in
theorem l9Below_ok {w : World} {va vb u : Value} {a b f : List Int} {fa fb gp : List Nat} (ha : Sl intR w va a fa) (hb : Sl intR w vb b fb) (hf : Sl intR w u f gp) (la : a.length = 3) (lb : b.length = 3) (hff : isFieldList f = true) :
    Run Try.prog 131 [va, vb, u] w (fun r w' => r = .bool (lwr f a b) ∧ Keep w w') := by
  have hnf := hf.le
  obtain ⟨A, na, ca, rfl, hla⟩ := ha.split
  obtain ⟨B, nb, cb, rfl, hlb⟩ := hb.split
  obtain ⟨C, nf, cf_, rfl, hlf⟩ := hf.split
  refine Run_intro Try.func131 (by unfold CallOk; kernel_rfl) rfl Try.ntmps131 (Nat.le_of_ble_eq_true rfl) ?_
  simp only [penv, Nat.reduceAdd, Nat.zero_add]
  repeat refine zz ?_
  refine W_loop (S := Nat) (fun k => [(0, .slice A na ca), (1, .slice B nb cb), (2, .slice C nf cf_), (7, .bool (lessN f a b k)), (8, .int .i64 (k : Int))]) (fun k w' => Keep w w' ∧ k ≤ nf ∧ ∀ i, i < k → (fun k : Nat => decide (gi a (gi f (k : Int)) ≤ gi b (gi f (k : Int)))) i = true) (fun k => nf - k) 0 ⟨rfl, rfl, rfl, by unfold lessN; rfl, rfl, trivial⟩ ⟨Keep.refl _, Nat.zero_le _, fun i h => absurd h (by omega)⟩ ?_
  rintro k wa ⟨hka, hk, hall⟩
  have haa := ha.keep hka
  have hba := hb.keep hka
  have hfa := hf.keep hka
  repeat refine zz ?_
  refine W_cond rfl (fun hc => ?_) (fun hc => ?_)
  · simp at hc
    have hkf : k < nf := by omega
    have hfk := field_at hff (k := k) (by omega)
    obtain ⟨hC, hcf⟩ := hfa.getI (i := (k : Int)) (by omega) (by omega)
    obtain ⟨hA, hca⟩ := haa.getI (i := gi f (k : Int)) (by omega) (by omega)
    obtain ⟨hB, hcb⟩ := hba.getI (i := gi f (k : Int)) (by omega) (by omega)
    repeat refine zz ?_
    refine W_quiet (Keep wa) (by kernel_rfl) (by kernel_rfl) (Keep.drew _) ?_
    repeat refine qq ?_
    intro wd hkd 
    replace hka := hka.keep hkd
    repeat refine zz ?_
    refine W_cond rfl (fun hd => ?_) (fun hd => ?_)
    · simp at hd
      repeat refine zz ?_
      exact ret1 rfl rfl ⟨by rw [lwr_eq, allB_false (k := k) (by omega) (decide_eq_false (by omega))]; rfl, hka⟩
    simp at hd
    have haa := ha.keep hka
    have hba := hb.keep hka
    have hfa := hf.keep hka
    obtain ⟨hC, hcf⟩ := hfa.getI (i := (k : Int)) (by omega) (by omega)
    obtain ⟨hA, hca⟩ := haa.getI (i := gi f (k : Int)) (by omega) (by omega)
    obtain ⟨hB, hcb⟩ := hba.getI (i := gi f (k : Int)) (by omega) (by omega)
    have hs := lessN_succ f a b k
    cases hl : lessN f a b k with
    | true =>
      rw [hl] at hs
      repeat refine zz ?_
      refine W_quiet (Keep wd) (by kernel_rfl) (by kernel_rfl) (Keep.drew _) ?_
      repeat refine qq ?_
      intro we hke 
      repeat refine zz ?_
      exact ⟨k + 1, ⟨rfl, rfl, rfl, by rw [hs]; rfl, rfl, trivial⟩, ⟨hka.keep hke, by omega, all_step hall (decide_eq_true hd)⟩, by omega⟩
    | false =>
      rw [hl, Bool.false_or] at hs
      repeat refine zz ?_
      refine W_quiet (Keep wd) (by kernel_rfl) (by kernel_rfl) (Keep.drew _) ?_
      repeat refine qq ?_
      intro we hke 
      repeat refine zz ?_
      exact ⟨k + 1, ⟨rfl, rfl, rfl, by rw [hs]; rfl, rfl, trivial⟩, ⟨hka.keep hke, by omega, all_step hall (decide_eq_true hd)⟩, by omega⟩
  · simp at hc
    have hkn : k = f.length := by omega
    repeat refine zz ?_
    exact ret1 rfl rfl ⟨by rw [lwr_eq, allB_true (fun i hi => hall i (by omega)), Bool.true_and, hkn], hka⟩

set_option maxHeartbeats 1000000 in
theorem lower_ok {w : World} {va vb u : Value} {a b f : List Int} {fa fb gp : List Nat} (hf : Sl intR w u f gp) (ha : Sl intR w va a fa) (hb : Sl intR w vb b fb) (la : a.length = 3) (lb : b.length = 3) (hff : isFieldList f = true) :
    Run Try.prog 97 [u, va, vb] w (fun r w' => r = .bool (lwr f a b) ∧ Keep w w') := by
  have hnf := hf.le
  obtain ⟨A, na, ca, rfl, hla⟩ := ha.split
  obtain ⟨B, nb, cb, rfl, hlb⟩ := hb.split
  obtain ⟨C, nf, cf_, rfl, hlf⟩ := hf.split
  refine Run_intro Try.func97 (by unfold CallOk; kernel_rfl) rfl Try.ntmps97 (Nat.le_of_ble_eq_true rfl) ?_
  simp only [penv, Nat.reduceAdd, Nat.zero_add]
  repeat refine zz ?_
  refine W_loop (S := Nat) (fun k => [(1, .slice A na ca), (2, .slice B nb cb), (10, .slice C nf cf_), (11, .int .i64 (nf : Int)), (7, .bool (lessN f a b k)), (12, .int .i64 (k : Int))]) (fun k w' => Keep w w' ∧ k ≤ nf ∧ ∀ i, i < k → (fun k : Nat => decide (gi a (gi f (k : Int)) ≤ gi b (gi f (k : Int)))) i = true) (fun k => nf - k) 0 ⟨rfl, rfl, rfl, rfl, by unfold lessN; rfl, rfl, trivial⟩ ⟨Keep.refl _, Nat.zero_le _, fun i h => absurd h (by omega)⟩ ?_
  rintro k wa ⟨hka, hk, hall⟩
  have haa := ha.keep hka
  have hba := hb.keep hka
  have hfa := hf.keep hka
  repeat refine zz ?_
  refine W_cond rfl (fun hc => ?_) (fun hc => ?_)
  · simp at hc
    have hkf : k < nf := by omega
    have hfk := field_at hff (k := k) (by omega)
    obtain ⟨hC, hcf⟩ := hfa.getI (i := (k : Int)) (by omega) (by omega)
    obtain ⟨hA, hca⟩ := haa.getI (i := gi f (k : Int)) (by omega) (by omega)
    obtain ⟨hB, hcb⟩ := hba.getI (i := gi f (k : Int)) (by omega) (by omega)
    repeat refine zz ?_
    refine W_quiet (Keep wa) (by kernel_rfl) (by kernel_rfl) (Keep.drew _) ?_
    repeat refine qq ?_
    intro wd hkd 
    replace hka := hka.keep hkd
    repeat refine zz ?_
    refine W_cond rfl (fun hd => ?_) (fun hd => ?_)
    · simp at hd
      repeat refine zz ?_
      exact ret1 rfl rfl ⟨by rw [lwr_eq, allB_false (k := k) (by omega) (decide_eq_false (by omega))]; rfl, hka⟩
    simp at hd
    have haa := ha.keep hka
    have hba := hb.keep hka
    obtain ⟨hA, hca⟩ := haa.getI (i := gi f (k : Int)) (by omega) (by omega)
    obtain ⟨hB, hcb⟩ := hba.getI (i := gi f (k : Int)) (by omega) (by omega)
    have hs := lessN_succ f a b k
    cases hl : lessN f a b k with
    | true =>
      rw [hl] at hs
      repeat refine zz ?_
      refine W_quiet (Keep wd) (by kernel_rfl) (by kernel_rfl) (Keep.drew _) ?_
      repeat refine qq ?_
      intro we hke 
      repeat refine zz ?_
      exact ⟨k + 1, ⟨rfl, rfl, rfl, rfl, by rw [hs]; rfl, rfl, trivial⟩, ⟨hka.keep hke, by omega, all_step hall (decide_eq_true hd)⟩, by omega⟩
    | false =>
      rw [hl, Bool.false_or] at hs
      repeat refine zz ?_
      refine W_quiet (Keep wd) (by kernel_rfl) (by kernel_rfl) (Keep.drew _) ?_
      repeat refine qq ?_
      intro we hke 
      repeat refine zz ?_
      exact ⟨k + 1, ⟨rfl, rfl, rfl, rfl, by rw [hs]; rfl, rfl, trivial⟩, ⟨hka.keep hke, by omega, all_step hall (decide_eq_true hd)⟩, by omega⟩
  · simp at hc
    have hkn : k = f.length := by omega
    repeat refine zz ?_
    exact ret1 rfl rfl ⟨by rw [lwr_eq, allB_true (fun i hi => hall i (by omega)), Bool.true_and, hkn], hka⟩
end Go.E

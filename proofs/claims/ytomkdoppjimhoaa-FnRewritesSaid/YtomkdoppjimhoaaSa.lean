/-
  Contracts: where a part of an expression begins; the parts of a node. Conditions: as stated.
-/
import Derived.Test.YtomkdoppjimhoaaRw
import Derived.Test.YtomkdoppjimhoaaCp
import Derived.Test.YtomkdoppjimhoaaEx
import Derived.Test.YtomkdoppjimhoaaRs
set_option linter.unusedVariables false
set_option linter.unusedSimpArgs false
namespace Go.E
open Go Go.RowKit Go.Proofs
theorem rev_take {E : List Nod} {m : Nat} (h : m < E.length) : (E.take (m + 1)).reverse = gi E (m : Int) :: (E.take m).reverse := by
  rw [take_gi h, List.reverse_append]; rfl
theorem stR_cons (x : Nod) (r : List Nod) (need : Int) : stR (x :: r) need = if need - 1 + opnds x.op = 0 then r.length else stR r (need - 1 + opnds x.op) := rfl
theorem hitR_cons (x : Nod) (r : List Nod) (need : Int) : hitR (x :: r) need ↔ (need - 1 + opnds x.op = 0 ∨ hitR r (need - 1 + opnds x.op)) := Iff.rfl
theorem stR_le : ∀ (l : List Nod) (k : Int), stR l k ≤ l.length
  | [], _ => Nat.le_refl _
  | x :: r, k => by
    rw [stR_cons]
    split
    · simp
    · have := stR_le r (k - 1 + opnds x.op); simp only [List.length_cons]; omega
theorem st_le (E : List Nod) (n : Nat) : st E n ≤ n := by
  have := stR_le (E.take n).reverse 1
  rw [List.length_reverse, List.length_take] at this
  unfold st; omega
theorem opnds_bd (op : Int) : 0 ≤ opnds op ∧ opnds op ≤ 2 := by unfold opnds; split <;> (try split) <;> omega
attribute [local irreducible] W WL WD WE thenE inE retQ PureOp Keep Cell Cells Blk Sl Rows Own Src Fresh
attribute [local irreducible] opnds stR hitR

theorem start_ok {w : World} {v : Value} {E : List Nod} {fp : List Nat} (hx : Sl nodeR w v E fp) (hl : E.length ≤ 1048576) {p : Nat} (hp : p < E.length) (hh : hitR (E.take (p + 1)).reverse 1) {i : Int} (hi : i = (p : Int)) :
    Run Try.prog 61 [v, .int .i64 i] w (fun r w' => r = .int .i64 (st E (p + 1) : Int) ∧ w = w') := by
  have hle := hx.le
  obtain ⟨A, n, c, rfl, hnx⟩ := hx.split
  subst hi
  refine Run_intro Try.func61 (by unfold CallOk; kernel_rfl) rfl Try.ntmps61 (Nat.le_of_ble_eq_true rfl) ?_
  simp only [penv, Nat.reduceAdd, Nat.zero_add]
  repeat refine zz ?_
  refine W_loop (S := Nat × Int) (fun s => [(0, .slice A n c), (5, .int .i64 s.2), (6, .int .i64 (s.1 : Int))]) (fun s w' => w = w' ∧ s.1 ≤ p ∧ (1 ≤ s.2 ∧ s.2 ≤ 1 + ((p : Int) - (s.1 : Int))) ∧ stR (E.take (s.1 + 1)).reverse s.2 = st E (p + 1) ∧ hitR (E.take (s.1 + 1)).reverse s.2) (fun s => s.1) (p, 1) ⟨rfl, rfl, rfl, trivial⟩ ⟨rfl, Nat.le_refl _, by dsimp only; omega, rfl, hh⟩ ?_
  rintro ⟨m, need⟩ _ ⟨rfl, hm, hnd, hst, hht⟩
  dsimp only at hm hnd hst hht ⊢
  rw [rev_take (by omega)] at hst hht
  rw [stR_cons] at hst
  rw [hitR_cons] at hht
  have hob := opnds_bd (gi E (m : Int)).op
  obtain ⟨hA, vl, ul, f1, f2, hcell, _, _, _⟩ := node_get hx (i := (m : Int)) (by omega) (by omega)
  repeat refine zz ?_
  refine o_call rfl rfl rfl (operands_ok _ _) ?_
  rintro _ _ ⟨rfl, rfl⟩
  repeat refine zz ?_
  refine W_cond rfl (fun hc => ?_) (fun hc => ?_)
  · simp at hc
    rw [if_pos hc] at hst
    repeat refine zz ?_
    exact ret1 rfl rfl ⟨by rw [← hst]; simp; omega, rfl⟩
  · simp at hc
    rw [if_neg hc] at hst
    have h2 := hht.resolve_left hc
    have hm0 : m ≠ 0 := fun e => by subst e; simp only [List.take_zero, List.reverse_nil] at h2; unfold hitR at h2; exact h2
    obtain ⟨m, rfl⟩ : ∃ k, m = k + 1 := ⟨m - 1, by omega⟩
    repeat refine zz ?_
    exact ⟨(m, need - 1 + opnds (gi E ((m + 1 : Nat) : Int)).op), ⟨rfl, rfl, find_int rfl (by dsimp only; omega), trivial⟩, ⟨rfl, by dsimp only; omega, by dsimp only; omega, hst, h2⟩, by dsimp only; omega⟩

theorem l6Start_ok {w : World} {v : Value} {E : List Nod} {fp : List Nat} (hx : Sl nodeR w v E fp) (hl : E.length ≤ 1048576) {p : Nat} (hp : p ≤ E.length) {i : Int} (hi : i = (p : Int) - 1) :
    Run Try.prog 74 [v, .int .i64 i] w (fun r w' => r = .int .i64 (st E p : Int) ∧ w = w') := by
  have hle := hx.le
  obtain ⟨A, n, c, rfl, hnx⟩ := hx.split
  subst hi
  refine Run_intro Try.func74 (by unfold CallOk; kernel_rfl) rfl Try.ntmps74 (Nat.le_of_ble_eq_true rfl) ?_
  simp only [penv, Nat.reduceAdd, Nat.zero_add]
  repeat refine zz ?_
  refine W_loop (S := Nat × Int) (fun s => [(0, .slice A n c), (5, .int .i64 s.2), (6, .int .i64 ((s.1 : Int) - 1))]) (fun s w' => w = w' ∧ s.1 ≤ p ∧ (1 - ((p : Int) - (s.1 : Int)) ≤ s.2 ∧ s.2 ≤ 1 + ((p : Int) - (s.1 : Int))) ∧ stR (E.take s.1).reverse s.2 = st E p) (fun s => s.1) (p, 1) ⟨rfl, rfl, rfl, trivial⟩ ⟨rfl, Nat.le_refl _, by dsimp only; omega, rfl⟩ ?_
  rintro ⟨m, need⟩ _ ⟨rfl, hm, hnd, hst⟩
  dsimp only at hm hnd hst ⊢
  repeat refine zz ?_
  refine W_cond rfl (fun hg => ?_) (fun hg => ?_)
  · simp at hg
    obtain ⟨m, rfl⟩ : ∃ k, m = k + 1 := ⟨m - 1, by omega⟩
    rw [rev_take (by omega), stR_cons] at hst
    have hob := opnds_bd (gi E (m : Int)).op
    have hi : ((m + 1 : Nat) : Int) - 1 = (m : Int) := by omega
    rw [hi]
    obtain ⟨hA, vl, ul, f1, f2, hcell, _, _, _⟩ := node_get hx (i := (m : Int)) (by omega) (by omega)
    have fin0 : ∀ {need' : Int}, need' = need - 1 + opnds (gi E (m : Int)).op → (1 - ((p : Int) - (m : Int)) ≤ need' ∧ need' ≤ 1 + ((p : Int) - (m : Int))) := fun e => by omega
    repeat refine zz ?_
    refine W_cond rfl (fun h0 => ?_) (fun h0 => ?_)
    · simp at h0
      have eo : opnds (gi E (m : Int)).op = 0 := by rw [h0]; unfold opnds; rfl
      repeat refine zz ?_
      refine W_cond rfl (fun hc => ?_) (fun hc => ?_)
      · simp at hc
        rw [if_pos (by omega)] at hst
        repeat refine zz ?_
        exact ret1 rfl rfl ⟨by rw [← hst]; simp; omega, rfl⟩
      · simp at hc
        rw [if_neg (by omega)] at hst
        repeat refine zz ?_
        exact ⟨(m, need - 1 + opnds (gi E (m : Int)).op), ⟨rfl, find_int rfl (by dsimp only; try omega), find_int rfl (by dsimp only; try omega), trivial⟩, ⟨rfl, by dsimp only; omega, by dsimp only; omega, hst⟩, by dsimp only; omega⟩
    simp at h0
    repeat refine zz ?_
    refine W_cond rfl (fun h3 => ?_) (fun h3 => ?_)
    · simp at h3
      have eo : opnds (gi E (m : Int)).op = 1 := by rw [h3]; unfold opnds; rfl
      repeat refine zz ?_
      refine W_cond rfl (fun hc => ?_) (fun hc => ?_)
      · simp at hc
        rw [if_pos (by omega)] at hst
        repeat refine zz ?_
        exact ret1 rfl rfl ⟨by rw [← hst]; simp; omega, rfl⟩
      · simp at hc
        rw [if_neg (by omega)] at hst
        repeat refine zz ?_
        exact ⟨(m, need - 1 + opnds (gi E (m : Int)).op), ⟨rfl, find_int rfl (by dsimp only; try omega), find_int rfl (by dsimp only; try omega), trivial⟩, ⟨rfl, by dsimp only; omega, by dsimp only; omega, hst⟩, by dsimp only; omega⟩
    simp at h3
    have eo : opnds (gi E (m : Int)).op = 2 := by unfold opnds; rw [if_neg h0, if_neg h3]
    repeat refine zz ?_
    refine W_cond rfl (fun hc => ?_) (fun hc => ?_)
    · simp at hc
      rw [if_pos (by omega)] at hst
      repeat refine zz ?_
      exact ret1 rfl rfl ⟨by rw [← hst]; simp; omega, rfl⟩
    · simp at hc
      rw [if_neg (by omega)] at hst
      repeat refine zz ?_
      exact ⟨(m, need - 1 + opnds (gi E (m : Int)).op), ⟨rfl, find_int rfl (by dsimp only; try omega), find_int rfl (by dsimp only; try omega), trivial⟩, ⟨rfl, by dsimp only; omega, by dsimp only; omega, hst⟩, by dsimp only; omega⟩
  · simp at hg
    obtain rfl : m = 0 := by omega
    repeat refine zz ?_
    refine ret1 rfl rfl ⟨?_, rfl⟩
    rw [← hst]; simp only [List.take_zero, List.reverse_nil]; unfold stR; rfl
end Go.E

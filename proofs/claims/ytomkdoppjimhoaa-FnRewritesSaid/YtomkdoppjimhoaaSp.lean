/-
  Plain laws: what stands at a place of a valid expression; valid expressions are short. Conditions: as stated.
-/
import Derived.Test.YtomkdoppjimhoaaRw
set_option linter.unusedVariables false
set_option linter.unusedSimpArgs false
namespace Go.E
open Go Go.RowKit Go.Proofs
theorem op_rng {E : List Nod} (h : isExpr E = true) {p : Nat} (hp : p < E.length) : 0 ≤ (gi E (p : Int)).op ∧ (gi E (p : Int)).op ≤ 4 := (exOk_op ((isExpr_ok h).1 p hp)).1
theorem hit_at {E : List Nod} (h : isExpr E = true) {p : Nat} (hp : p < E.length) : hitR (E.take (p + 1)).reverse 1 := by
  obtain ⟨c, t, ha⟩ := at_ex h hp
  exact ha.hit
theorem st_lt {E : List Nod} (h : isExpr E = true) {p : Nat} (hp : p < E.length) : st E (p + 1) ≤ p := by
  obtain ⟨c, t, ha⟩ := at_ex h hp
  have := ha.len
  have := flat_pos t
  have := ha.st
  omega
theorem at_un {E : List Nod} (h : isExpr E = true) {p : Nat} (hp : p < E.length) (ho : (gi E (p : Int)).op = 3) : 1 ≤ p ∧ st E (p + 1) = st E p ∧ st E p < p ∧ hitR (E.take p).reverse 1 := by
  obtain ⟨c, t, ha⟩ := at_ex h hp
  have hto := plug_ok ha.ok
  cases t with
  | leaf w => have := (tk hp (B := preC c) (n := ⟨0, w⟩) ha.take).1; rw [this] at ho; simp at ho
  | bin op l r => have := (ha.bin1 hp).1; rw [this] at ho; have := hto.1; simp only [opN] at ho; omega
  | un s =>
    obtain ⟨h1, h2, h3⟩ := ha.un1 hp
    obtain ⟨h4, h5⟩ := st_at (A := preC c) (B := []) (show s.ok from hto) h2
    have h6 := ha.len
    have h7 := flat_pos s
    simp only [flat, List.length_append, List.length_cons, List.length_nil] at h6
    exact ⟨by omega, by rw [ha.st, h4], by rw [h4]; omega, h5⟩
theorem at_bin {E : List Nod} (h : isExpr E = true) {p : Nat} (hp : p < E.length) (ho : opnds (gi E (p : Int)).op = 2) : 1 ≤ p ∧ st E (p + 1) ≤ st E p ∧ st E p < p ∧ hitR (E.take p).reverse 1 := by
  obtain ⟨c, t, ha⟩ := at_ex h hp
  have hto := plug_ok ha.ok
  cases t with
  | leaf w => have := (tk hp (B := preC c) (n := ⟨0, w⟩) ha.take).1; rw [this] at ho; simp [opnds] at ho
  | un s => have := (ha.un1 hp).1; rw [this] at ho; simp [opnds, opN] at ho
  | bin op l r =>
    obtain ⟨h1, h2, h3, h4, h5, h6, h7, h8, h9, h10⟩ := ha.bin1 hp
    have h11 := ha.len
    have h12 := flat_pos r
    simp only [flat, List.length_append, List.length_cons, List.length_nil] at h11
    exact ⟨h3, by rw [ha.st]; exact h9, by rw [h5]; simp only [List.length_append]; omega, h6⟩
theorem opnds_cases {k : Int} (h : 0 ≤ k ∧ k ≤ 4) : (k = 0 ∧ opnds k = 0) ∨ (k = 3 ∧ opnds k = 1) ∨ ((k = 1 ∨ k = 2 ∨ k = 4) ∧ opnds k = 2) := by
  rcases (show k = 0 ∨ k = 1 ∨ k = 2 ∨ k = 3 ∨ k = 4 by omega) with rfl | rfl | rfl | rfl | rfl
  · exact .inl ⟨rfl, rfl⟩
  · exact .inr (.inr ⟨.inl rfl, rfl⟩)
  · exact .inr (.inr ⟨.inr (.inl rfl), rfl⟩)
  · exact .inr (.inl ⟨rfl, rfl⟩)
  · exact .inr (.inr ⟨.inr (.inr rfl), rfl⟩)
theorem asc_len {l : List Int} (h : ascL l = true) : l.length ≤ 10 := by
  have key : ∀ i : Nat, i < l.length → (i : Int) ≤ gi l (i : Int) ∧ gi l (i : Int) ≤ 9 := by
    intro i
    induction i with
    | zero =>
      intro hi
      have := List.all_eq_true.1 h 0 (by simpa using hi)
      simp only [ascAt, inR, Bool.and_eq_true, decide_eq_true_eq] at this
      exact this.1
    | succ i ih =>
      intro hi
      have h1 := ih (by omega)
      have := List.all_eq_true.1 h (i + 1) (by simpa using hi)
      simp only [ascAt, inR, Bool.and_eq_true, Bool.or_eq_true, decide_eq_true_eq] at this
      have h2 := this.2.resolve_left (by omega)
      rw [show ((i + 1 : Nat) : Int) - 1 = (i : Int) by omega] at h2
      omega
  rcases Nat.lt_or_ge 10 l.length with h1 | h1
  · have := key 10 h1; omega
  · exact h1
theorem wish_small {x : Wsh} (h : isWish x = true) : totW x ≤ 18 := by
  obtain ⟨_, _, _, h4, _, h6, h7⟩ := isWish_ok h
  have := asc_len h7
  unfold totW
  by_cases hk : x.kind = 4
  · have := (arePairs_ok (h4 hk)).2.1; omega
  · have := h6 hk; omega
theorem noWish_tot {x : Wsh} (h : noWish x = true) : totW x = 0 := by
  simp only [noWish, Bool.and_eq_true, decide_eq_true_eq] at h
  unfold totW; omega
theorem totN_mem {E : List Nod} {k : Nat} (h : ∀ x, x ∈ E → totW x.wish ≤ k) : totN E ≤ k * E.length := by
  induction E with
  | nil => simp [totN]
  | cons x r ih =>
    have h1 := h x (by simp)
    have h2 := ih fun y hy => h y (List.mem_cons_of_mem _ hy)
    simp only [totN, List.length_cons, Nat.mul_add]; omega
theorem expr_small {E : List Nod} (h : isExpr E = true) : E.length ≤ 9 ∧ totN E ≤ 162 ∧ ∀ x, x ∈ E → totW x.wish ≤ 18 := by
  obtain ⟨h1, _, h3⟩ := isExpr_ok h
  have hm : ∀ x, x ∈ E → totW x.wish ≤ 18 := by
    intro x hx
    obtain ⟨i, hi, rfl⟩ := List.getElem_of_mem hx
    obtain ⟨_, _, h5, h6⟩ := exOk_op (h1 i hi)
    rw [gi_lt hi] at h5 h6
    by_cases h0 : (E[i]).op = 0
    · exact wish_small (h5 h0)
    · have := noWish_tot (h6 h0); omega
  have := totN_mem hm
  exact ⟨h3, by omega, hm⟩
theorem seg_len (E : List Nod) (a b : Nat) : (seg E a b).length ≤ E.length := by
  rw [seg, List.length_drop, List.length_take]; omega
theorem seg_mem {E : List Nod} {a b : Nat} {x : Nod} (h : x ∈ seg E a b) : x ∈ E := List.mem_of_mem_take (List.mem_of_mem_drop h)

theorem seg_length (E : List Nod) (a b : Nat) (hb : b ≤ E.length) : (seg E a b).length = b - a := by
  rw [seg, List.length_drop, List.length_take]; omega
theorem putR_len (E : List Nod) (p : Nat) (q : List Nod) : (putR E p q).length = min (st E (p + 1)) E.length + q.length + (E.length - (p + 1)) := by
  rw [putR, List.length_append, List.length_append, List.length_take, List.length_drop]
theorem ap_some {E q : List Nod} {rule : Int} {p : Nat} (hex : isExpr E = true) (hp : p < E.length) (hq : partR E rule p = some q) (hl : (putR E p q).length ≤ 9) : applyR E rule (p : Int) = some (putR E p q) := by
  unfold applyR
  rw [if_pos (by simp [placeB, hex, inR]; omega)]
  simp only [Int.toNat_natCast, hq]
  rw [if_pos hl]
theorem ap_none {E : List Nod} {rule : Int} {p : Nat} (hq : partR E rule p = none) : applyR E rule (p : Int) = none := by
  unfold applyR
  split
  · simp only [Int.toNat_natCast, hq]
  · rfl
theorem ap_long {E q : List Nod} {rule : Int} {p : Nat} (hq : partR E rule p = some q) (hl : ¬ (putR E p q).length ≤ 9) : applyR E rule (p : Int) = none := by
  unfold applyR
  split
  · simp only [Int.toNat_natCast, hq]
    rw [if_neg hl]
  · rfl
theorem part1 (E : List Nod) (p : Nat) : partR E 1 p = if (gi E (p : Int)).op = 3 ∧ (gi E ((p : Int) - 1)).op = 3 then some (seg E (st E (p + 1)) (p - 1)) else none := by rw [partR, if_pos rfl]
theorem part2 (E : List Nod) (p : Nat) : partR E 2 p = if (gi E (p : Int)).op = 3 ∧ opnds (gi E ((p : Int) - 1)).op = 2 then some (seg E (st E (p + 1)) (st E (p - 1)) ++ [opN 3] ++ seg E (st E (p - 1)) (p - 1) ++ [opN 3, opN (gi E ((p : Int) - 1)).op]) else none := by rw [partR, if_neg (by decide), if_pos rfl]
theorem part3 (E : List Nod) (p : Nat) : partR E 3 p = if opnds (gi E (p : Int)).op = 2 ∧ seg E (st E (p + 1)) (st E p) = seg E (st E p) p then some (seg E (st E (p + 1)) (st E p)) else none := by rw [partR, if_neg (by decide), if_neg (by decide), if_pos rfl]
theorem part4 (E : List Nod) (p : Nat) : partR E 4 p = if (gi E (p : Int)).op = 1 ∨ (gi E (p : Int)).op = 4 then some (seg E (st E p) p ++ seg E (st E (p + 1)) (st E p) ++ [opN (gi E (p : Int)).op]) else none := by rw [partR, if_neg (by decide), if_neg (by decide), if_neg (by decide), if_pos rfl]
theorem part0 {E : List Nod} {rule : Int} (h1 : rule ≠ 1) (h2 : rule ≠ 2) (h3 : rule ≠ 3) (h4 : rule ≠ 4) (p : Nat) : partR E rule p = none := by rw [partR, if_neg h1, if_neg h2, if_neg h3, if_neg h4]
end Go.E

/-
  Plain laws: sorted access; how often an item has been read. No program here. Conditions: as stated.
-/
import Derived.Test.YtomkdoppjimhoaaX1
import Derived.Test.YtomkdoppjimhoaaSg
import Derived.Test.YtomkdoppjimhoaaLe
import Derived.Test.YtomkdoppjimhoaaFi
import Derived.Test.YtomkdoppjimhoaaTr
set_option linter.unusedVariables false
set_option linter.unusedSimpArgs false
namespace Go.E
open Go Go.RowKit Go.Proofs
def exB (n : Nat) (f : Nat → Bool) : Bool := !(allB n fun i => !f i)
theorem exB_t {n k : Nat} {f : Nat → Bool} (hk : k < n) (h : f k = true) : exB n f = true := by
  rw [exB, allB_false hk (by rw [h]; rfl)]; rfl
theorem exB_f {n : Nat} {f : Nat → Bool} (h : ∀ i, i < n → f i = false) : exB n f = false := by
  rw [exB, allB_true (fun i hi => by rw [h i hi]; rfl)]; rfl
theorem exB_iff {n : Nat} {f : Nat → Bool} : exB n f = true ↔ ∃ k, k < n ∧ f k = true := by
  constructor
  · intro h
    apply Classical.byContradiction
    intro hn
    rw [exB_f (fun i hi => by
      cases hf : f i with
      | false => rfl
      | true => exact absurd ⟨i, hi, hf⟩ hn)] at h
    cases h
  · rintro ⟨k, hk, h⟩; exact exB_t hk h
/-- places in the order of a field, and the items there -/
def ordL (L : List Itm) (k : Int) : List Int := sortP (fun i => fval k (gi L i)) (iota 0 L.length)
def byF (L : List Itm) (k : Int) : List Itm := sortP (fval k) L
theorem ordL_len (L : List Itm) (k : Int) : (ordL L k).length = L.length := by rw [ordL, sortP_len, iota_len]
theorem byF_len (L : List Itm) (k : Int) : (byF L k).length = L.length := sortP_len _ _
theorem byF_at {L : List Itm} {k : Int} {n : Nat} (h : n < L.length) : gi (byF L k) (n : Int) = gi L (gi (ordL L k) (n : Int)) := by
  rw [byF, ← order_items L (fval k), gi_mapI (by rw [sortP_len, iota_len]; exact h)]; rfl
theorem iota_mem {n : Nat} {y : Int} : y ∈ iota 0 n ↔ 0 ≤ y ∧ y < n := by
  simp only [iota, List.mem_map, List.mem_range]
  constructor
  · rintro ⟨a, ha, rfl⟩; omega
  · rintro ⟨h0, h1⟩; exact ⟨y.toNat, by omega, by omega⟩
theorem ordL_mem {L : List Itm} {k y : Int} : y ∈ ordL L k ↔ 0 ≤ y ∧ y < L.length := by
  rw [ordL, (sortP_perm _ _).mem_iff, iota_mem]
theorem iota_nodup (n : Nat) : (iota 0 n).Nodup := by
  rw [iota, List.nodup_iff_pairwise_ne, List.pairwise_map]
  exact (List.nodup_range (n := n)).imp fun h e => h (by omega)
theorem ordL_nodup (L : List Itm) (k : Int) : (ordL L k).Nodup := (sortP_perm _ _).nodup_iff.2 (iota_nodup _)
theorem ord_at {L : List Itm} {k : Int} {n : Nat} (h : n < L.length) : 0 ≤ gi (ordL L k) (n : Int) ∧ gi (ordL L k) (n : Int) < L.length := ordL_mem.1 (gi_mem (by rw [ordL_len]; exact h))
/-- read among the first n -/
def inO (L : List Itm) (k : Int) (n : Nat) (i : Int) : Nat := if i ∈ (ordL L k).take n then 1 else 0
theorem inO_le (L : List Itm) (k : Int) (n : Nat) (i : Int) : inO L k n i ≤ 1 := by unfold inO; split <;> omega
theorem inO_succ {L : List Itm} {k : Int} {n : Nat} (h : n < L.length) (i : Int) : inO L k (n + 1) i = inO L k n i + (if i = gi (ordL L k) (n : Int) then 1 else 0) := by
  have hl : n < (ordL L k).length := by rw [ordL_len]; exact h
  have hnd : ((ordL L k).take n ++ [gi (ordL L k) (n : Int)]).Nodup := by
    rw [← take_gi hl]
    exact (ordL_nodup L k).sublist (List.take_sublist _ _)
  have hno : gi (ordL L k) (n : Int) ∉ (ordL L k).take n := fun hm => (List.nodup_append.1 hnd).2.2 _ hm _ (by simp) rfl
  unfold inO
  rw [take_gi hl]
  by_cases he : i = gi (ordL L k) (n : Int)
  · subst he
    rw [if_pos (by simp), if_neg hno, if_pos rfl]
  · rw [if_neg he]
    by_cases hm : i ∈ (ordL L k).take n
    · rw [if_pos (by simp [hm]), if_pos hm]
    · rw [if_neg (by simp [hm, he]), if_neg hm]
/-- how often item i has been read: n times in every field, once more in the first j -/
def cq (L : List Itm) (f : List Int) (n j : Nat) (i : Int) : Nat → Nat
  | 0 => 0
  | a + 1 => cq L f n j i a + inO L (gi f (a : Int)) (if a < j then n + 1 else n) i
def cnt (L : List Itm) (f : List Int) (n : Nat) (i : Int) : Nat := cq L f n 0 i f.length
theorem cq_step {L : List Itm} {f : List Int} {n j : Nat} (h : n < L.length) (i : Int) : ∀ a, cq L f n (j + 1) i a = cq L f n j i a + (if j < a ∧ i = gi (ordL L (gi f (j : Int))) (n : Int) then 1 else 0)
  | 0 => by simp [cq]
  | a + 1 => by
    rw [cq, cq, cq_step h i a]
    rcases Nat.lt_trichotomy a j with h1 | h1 | h1
    · rw [if_pos (show a < j + 1 by omega), if_pos h1, if_neg (fun e => by omega), if_neg (fun e => by omega)]; omega
    · subst h1
      rw [if_pos (show a < a + 1 by omega), if_neg (Nat.lt_irrefl a), if_neg (fun e => Nat.lt_irrefl a e.1), inO_succ h]
      by_cases he : i = gi (ordL L (gi f (a : Int))) (n : Int)
      · rw [if_pos he, if_pos ⟨by omega, he⟩]; omega
      · rw [if_neg he, if_neg (fun e => he e.2)]; omega
    · rw [if_neg (show ¬ a < j + 1 by omega), if_neg (show ¬ a < j by omega)]
      by_cases he : i = gi (ordL L (gi f (j : Int))) (n : Int)
      · rw [if_pos ⟨h1, he⟩, if_pos ⟨by omega, he⟩]; omega
      · rw [if_neg (fun e => he e.2), if_neg (fun e => he e.2)]; omega
theorem cq_end {L : List Itm} {f : List Int} {n j : Nat} (i : Int) : ∀ a, a ≤ j → cq L f n j i a = cq L f (n + 1) 0 i a
  | 0, _ => rfl
  | a + 1, h => by rw [cq, cq, cq_end i a (by omega), if_pos (show a < j by omega), if_neg (show ¬ a < 0 by omega)]
theorem cq_le (L : List Itm) (f : List Int) (n j : Nat) (i : Int) : ∀ a, cq L f n j i a ≤ a
  | 0 => Nat.le_refl _
  | a + 1 => by
    have := cq_le L f n j i a
    have := inO_le L (gi f (a : Int)) (if a < j then n + 1 else n) i
    rw [cq]; omega
theorem cq_zero (L : List Itm) (f : List Int) (i : Int) : ∀ a, cq L f 0 0 i a = 0
  | 0 => rfl
  | a + 1 => by rw [cq, cq_zero L f i a, if_neg (show ¬ a < 0 by omega)]; simp [inO]
/-- an item read everywhere beats what would be read next -/
def stp (L : List Itm) (f : List Int) (n : Nat) : Bool := exB L.length fun i => decide (cnt L f n (i : Int) = f.length) && exB f.length fun k => decide (fval (gi f (k : Int)) (gi L (i : Int)) < fval (gi f (k : Int)) (gi (byF L (gi f (k : Int))) (n : Int)))
def endF (L : List Itm) (f : List Int) : Nat → Nat
  | 0 => L.length
  | d + 1 => if stp L f (L.length - (d + 1)) then L.length - (d + 1) else endF L f d
def endN (L : List Itm) (f : List Int) : Nat := endF L f L.length
theorem endF_le (L : List Itm) (f : List Int) : ∀ d, endF L f d ≤ L.length
  | 0 => Nat.le_refl _
  | d + 1 => by
    have := endF_le L f d
    rw [endF]; split <;> omega
theorem endF_stop {L : List Itm} {f : List Int} {n : Nat} (h : n < L.length) (hs : stp L f n = true) : endF L f (L.length - n) = n := by
  obtain ⟨d, hd⟩ : ∃ d, L.length - n = d + 1 := ⟨L.length - n - 1, by omega⟩
  rw [hd, endF, show L.length - (d + 1) = n by omega, if_pos hs]
theorem endF_go {L : List Itm} {f : List Int} {n : Nat} (h : n < L.length) (hs : stp L f n = false) : endF L f (L.length - (n + 1)) = endF L f (L.length - n) := by
  obtain ⟨d, hd⟩ : ∃ d, L.length - n = d + 1 := ⟨L.length - n - 1, by omega⟩
  rw [hd, endF, show L.length - (d + 1) = n by omega, if_neg (by rw [hs]; decide), show L.length - (n + 1) = d by omega]
def pickI (L : List Itm) (p : Nat → Bool) : Nat → List Itm
  | 0 => []
  | n + 1 => pickI L p n ++ (if p n then [gi L (n : Int)] else [])
theorem pickI_len (L : List Itm) (p : Nat → Bool) : ∀ n, (pickI L p n).length ≤ n
  | 0 => Nat.le_refl _
  | n + 1 => by
    have := pickI_len L p n
    rw [pickI, List.length_append]; split <;> simp <;> omega
theorem pickI_t {L : List Itm} {p : Nat → Bool} {n : Nat} (h : p n = true) : pickI L p (n + 1) = pickI L p n ++ [gi L (n : Int)] := by rw [pickI, if_pos h]
theorem pickI_f {L : List Itm} {p : Nat → Bool} {n : Nat} (h : p n = false) : pickI L p (n + 1) = pickI L p n := by rw [pickI, if_neg (by simp [h]), List.append_nil]
theorem pickI_mem {L : List Itm} {p : Nat → Bool} {x : Itm} : ∀ n, x ∈ pickI L p n ↔ ∃ i, i < n ∧ p i = true ∧ x = gi L (i : Int)
  | 0 => by simp [pickI]
  | n + 1 => by
    rw [pickI, List.mem_append, pickI_mem n]
    constructor
    · rintro (⟨i, h1, h2⟩ | h)
      · exact ⟨i, by omega, h2⟩
      · split at h
        · rename_i hp
          rw [List.mem_singleton] at h
          exact ⟨n, by omega, hp, h⟩
        · simp at h
    · rintro ⟨i, h1, h2, h3⟩
      rcases Nat.lt_or_ge i n with h | h
      · exact .inl ⟨i, h, h2, h3⟩
      · obtain rfl : i = n := by omega
        right; rw [if_pos h2, h3]; simp
def seenI (L : List Itm) (f : List Int) : List Itm := pickI L (fun i => decide (0 < cnt L f (endN L f) (i : Int))) L.length
def sortedBest (L : List Itm) (f : List Int) : List Int × Int := if areItems L && isFieldList f then (bestL (seenI L f) (lowE f), (endN L f : Int) * f.length) else ([], 0)
theorem sortedBest_len (L : List Itm) (f : List Int) : (sortedBest L f).1.length ≤ 16 := by
  unfold sortedBest
  split
  · rename_i h
    simp only [Bool.and_eq_true] at h
    have h1 := (areItems_at h.1).2
    have h2 := bestL_len (seenI L f) (lowE f)
    have h3 := pickI_len L (fun i => decide (0 < cnt L f (endN L f) (i : Int))) L.length
    have : (seenI L f).length ≤ L.length := h3
    dsimp only; omega
  · simp
theorem field_at {f : List Int} (h : isFieldList f = true) {k : Nat} (hk : k < f.length) : 0 ≤ gi f (k : Int) ∧ gi f (k : Int) ≤ 2 := by
  simp only [isFieldList, Bool.and_eq_true] at h
  have := List.all_eq_true.1 h.1 k (by simpa using hk)
  simp only [ascAt, inR, Bool.and_eq_true, decide_eq_true_eq] at this
  exact this.1
/-- low wishes as a tree -/
def lowT (f : List Int) : Nat → Tr
  | 0 => .leaf ⟨0, gi f 0, 0, [], []⟩
  | n + 1 => .bin 1 (lowT f n) (.leaf ⟨0, gi f ((n + 1 : Nat) : Int), 0, [], []⟩)
theorem lowT_flat (f : List Int) : ∀ n, flat (lowT f n) = lowN f (n + 1)
  | 0 => by simp [lowT, flat, lowN, lowNode]
  | n + 1 => by
    rw [lowT, flat, lowT_flat f n]
    show _ = lowN f (n + 1) ++ _
    rw [if_neg (by omega)]
    rfl
theorem lowT_ok {f : List Int} (h : isFieldList f = true) : ∀ n, n < f.length → (lowT f n).ok
  | 0, hn => by
    have := field_at h hn
    show isWish _ = true
    simp [isWish, inR, ascL, allB]
    exact this
  | n + 1, hn => by
    refine ⟨.inl rfl, lowT_ok h n (by omega), ?_⟩
    have := field_at h hn
    show isWish _ = true
    simp [isWish, inR, ascL, allB]
    exact this
theorem lowE_tree {f : List Int} (h : isFieldList f = true) : lowE f = flat (lowT f (f.length - 1)) ∧ (lowT f (f.length - 1)).ok ∧ 0 < f.length := by
  have hpos : 0 < f.length := by simp only [isFieldList, Bool.and_eq_true, decide_eq_true_eq] at h; exact h.2
  refine ⟨?_, lowT_ok h _ (by omega), hpos⟩
  rw [lowE, if_pos h, lowT_flat, Nat.sub_add_cancel hpos]
theorem lowE_expr {f : List Int} (h : isFieldList f = true) : isExpr (lowE f) = true := by
  obtain ⟨h1, h2, h3⟩ := lowE_tree h
  have h4 := fieldList_len h
  have h5 := lowN_len f f.length
  rw [h1]
  refine tree_expr h2 ?_
  rw [lowT_flat, Nat.sub_add_cancel h3]; omega
theorem low_cmp (k : Int) (x y : Itm) : itemCmp ⟨0, k, 0, [], []⟩ x y = if fval k x < fval k y then 1 else if fval k y < fval k x then -1 else 0 := by
  simp [itemCmp, cmpV, rankV, fval]
  rfl
/-- in the first m fields one item is not above another -/
def loB (f : List Int) (x y : Itm) (m : Nat) : Bool := allB m fun k => decide (fval (gi f (k : Int)) x ≤ fval (gi f (k : Int)) y)
theorem loB_succ (f : List Int) (x y : Itm) (m : Nat) : loB f x y (m + 1) = (loB f x y m && decide (fval (gi f (m : Int)) x ≤ fval (gi f (m : Int)) y)) := allB_succ _ _
theorem lowT_ev (f : List Int) (x y : Itm) : ∀ n, (lowT f n).ev x y =
    if loB f x y (n + 1) = true then (if loB f y x (n + 1) = true then 0 else 1) else (if loB f y x (n + 1) = true then -1 else 2)
  | 0 => by
    rw [loB_succ, loB_succ]
    have e : ∀ x y, loB f x y 0 = true := fun _ _ => rfl
    rw [e, e, lowT, Tr.ev, low_cmp]
    simp only [Bool.true_and, decide_eq_true_eq, Int.natCast_zero]
    generalize fval (gi f 0) x = a
    generalize fval (gi f 0) y = b
    rcases Int.lt_trichotomy a b with h | h | h
    · rw [if_pos h, if_pos (by omega), if_neg (by omega)]
    · rw [if_neg (by omega), if_neg (by omega), if_pos (by omega), if_pos (by omega)]
    · rw [if_neg (by omega), if_pos h, if_neg (by omega), if_pos (by omega)]
  | n + 1 => by
    rw [loB_succ, loB_succ f y x, lowT, Tr.ev, lowT_ev f x y n, Tr.ev, low_cmp]
    generalize loB f x y (n + 1) = A
    generalize loB f y x (n + 1) = B
    generalize fval (gi f ((n + 1 : Nat) : Int)) x = a
    generalize fval (gi f ((n + 1 : Nat) : Int)) y = b
    rcases Int.lt_trichotomy a b with h | h | h
    · have h1 : decide (a ≤ b) = true := decide_eq_true (by omega)
      have h2 : decide (b ≤ a) = false := decide_eq_false (by omega)
      have h3 : (if a < b then (1 : Int) else if b < a then -1 else 0) = 1 := if_pos h
      rw [h1, h2, h3]
      cases A <;> cases B <;> rfl
    · have h1 : decide (a ≤ b) = true := decide_eq_true (by omega)
      have h2 : decide (b ≤ a) = true := decide_eq_true (by omega)
      have h3 : (if a < b then (1 : Int) else if b < a then -1 else 0) = 0 := by rw [if_neg (by omega), if_neg (by omega)]
      rw [h1, h2, h3]
      cases A <;> cases B <;> rfl
    · have h1 : decide (a ≤ b) = false := decide_eq_false (by omega)
      have h2 : decide (b ≤ a) = true := decide_eq_true (by omega)
      have h3 : (if a < b then (1 : Int) else if b < a then -1 else 0) = -1 := by rw [if_neg (by omega), if_pos h]
      rw [h1, h2, h3]
      cases A <;> cases B <;> rfl
/-- better by low wishes: not above in any field, not below in all -/
theorem low_better {f : List Int} (h : isFieldList f = true) (x y : Itm) : cmpE (lowE f) x y = 1 ↔ loB f x y f.length = true ∧ loB f y x f.length = false := by
  obtain ⟨h1, h2, h3⟩ := lowE_tree h
  rw [h1, cmpE_ev h2, lowT_ev, Nat.sub_add_cancel h3]
  cases loB f x y f.length <;> cases loB f y x f.length <;> simp
end Go.E

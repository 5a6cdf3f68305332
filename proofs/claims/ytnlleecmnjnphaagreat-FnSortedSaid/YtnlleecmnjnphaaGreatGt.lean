/-
  Several of my texts in one: T1 T2 T6 T7 T8 Ta Tc. Conditions: as stated at each.
-/
import Derived.Test.YtnlleecmnjnphaaGreatX1
import Derived.Test.YtnlleecmnjnphaaGreatSg
import Derived.Test.YtnlleecmnjnphaaGreatLe
import Derived.Test.YtnlleecmnjnphaaGreatFi
import Derived.Test.YtnlleecmnjnphaaGreatTr
import Derived.Test.YtnlleecmnjnphaaGreatSt
import Derived.Test.YtnlleecmnjnphaaGreatOx
import Derived.Test.YtnlleecmnjnphaaGreatM1
import Derived.Test.YtnlleecmnjnphaaGreatCu
import Derived.Test.YtnlleecmnjnphaaGreatDv
set_option linter.unusedVariables false
set_option linter.unusedSimpArgs false
namespace Go.E
open Go Go.RowKit Go.Proofs
def exB (n : Nat) (f : Nat → Bool) : Bool := !(allB n fun i => !f i)
theorem exB_t {n k : Nat} {f : Nat → Bool} (hk : k < n) (h : f k = true) : exB n f = true := by
  rw [exB, allB_false hk (by rw [h]; rfl)]; rfl
theorem exB_f {n : Nat} {f : Nat → Bool} (h : ∀ i, i < n → f i = false) : exB n f = false := by
  rw [exB, allB_true (fun i hi => by rw [h i hi]; rfl)]; rfl
theorem exB_iff {n : Nat} {f : Nat → Bool} : exB n f = true ↔ ∃ k, k < n ∧ f k = true := by
  constructor
  · intro h
    apply Classical.byContradiction
    intro hn
    rw [exB_f (fun i hi => by
      cases hf : f i with
      | false => rfl
      | true => exact absurd ⟨i, hi, hf⟩ hn)] at h
    cases h
  · rintro ⟨k, hk, h⟩; exact exB_t hk h
/-- places in the order of a field, and the items there -/
def ordL (L : List Itm) (k : Int) : List Int := sortP (fun i => fval k (gi L i)) (iota 0 L.length)
def byF (L : List Itm) (k : Int) : List Itm := sortP (fval k) L
theorem ordL_len (L : List Itm) (k : Int) : (ordL L k).length = L.length := by rw [ordL, sortP_len, iota_len]
theorem byF_len (L : List Itm) (k : Int) : (byF L k).length = L.length := sortP_len _ _
theorem byF_at {L : List Itm} {k : Int} {n : Nat} (h : n < L.length) : gi (byF L k) (n : Int) = gi L (gi (ordL L k) (n : Int)) := by
  rw [byF, ← order_items L (fval k), gi_mapI (by rw [sortP_len, iota_len]; exact h)]; rfl
theorem iota_mem {n : Nat} {y : Int} : y ∈ iota 0 n ↔ 0 ≤ y ∧ y < n := by
  simp only [iota, List.mem_map, List.mem_range]
  constructor
  · rintro ⟨a, ha, rfl⟩; omega
  · rintro ⟨h0, h1⟩; exact ⟨y.toNat, by omega, by omega⟩
theorem ordL_mem {L : List Itm} {k y : Int} : y ∈ ordL L k ↔ 0 ≤ y ∧ y < L.length := by
  rw [ordL, (sortP_perm _ _).mem_iff, iota_mem]
theorem iota_nodup (n : Nat) : (iota 0 n).Nodup := by
  rw [iota, List.nodup_iff_pairwise_ne, List.pairwise_map]
  exact (List.nodup_range (n := n)).imp fun h e => h (by omega)
theorem ordL_nodup (L : List Itm) (k : Int) : (ordL L k).Nodup := (sortP_perm _ _).nodup_iff.2 (iota_nodup _)
theorem ord_at {L : List Itm} {k : Int} {n : Nat} (h : n < L.length) : 0 ≤ gi (ordL L k) (n : Int) ∧ gi (ordL L k) (n : Int) < L.length := ordL_mem.1 (gi_mem (by rw [ordL_len]; exact h))
/-- read among the first n -/
def inO (L : List Itm) (k : Int) (n : Nat) (i : Int) : Nat := if i ∈ (ordL L k).take n then 1 else 0
theorem inO_le (L : List Itm) (k : Int) (n : Nat) (i : Int) : inO L k n i ≤ 1 := by unfold inO; split <;> omega
theorem inO_succ {L : List Itm} {k : Int} {n : Nat} (h : n < L.length) (i : Int) : inO L k (n + 1) i = inO L k n i + (if i = gi (ordL L k) (n : Int) then 1 else 0) := by
  have hl : n < (ordL L k).length := by rw [ordL_len]; exact h
  have hnd : ((ordL L k).take n ++ [gi (ordL L k) (n : Int)]).Nodup := by
    rw [← take_gi hl]
    exact (ordL_nodup L k).sublist (List.take_sublist _ _)
  have hno : gi (ordL L k) (n : Int) ∉ (ordL L k).take n := fun hm => (List.nodup_append.1 hnd).2.2 _ hm _ (by simp) rfl
  unfold inO
  rw [take_gi hl]
  by_cases he : i = gi (ordL L k) (n : Int)
  · subst he
    rw [if_pos (by simp), if_neg hno, if_pos rfl]
  · rw [if_neg he]
    by_cases hm : i ∈ (ordL L k).take n
    · rw [if_pos (by simp [hm]), if_pos hm]
    · rw [if_neg (by simp [hm, he]), if_neg hm]
/-- how often item i has been read: n times in every field, once more in the first j -/
def cq (L : List Itm) (f : List Int) (n j : Nat) (i : Int) : Nat → Nat
  | 0 => 0
  | a + 1 => cq L f n j i a + inO L (gi f (a : Int)) (if a < j then n + 1 else n) i
def cnt (L : List Itm) (f : List Int) (n : Nat) (i : Int) : Nat := cq L f n 0 i f.length
theorem cq_step {L : List Itm} {f : List Int} {n j : Nat} (h : n < L.length) (i : Int) : ∀ a, cq L f n (j + 1) i a = cq L f n j i a + (if j < a ∧ i = gi (ordL L (gi f (j : Int))) (n : Int) then 1 else 0)
  | 0 => by simp [cq]
  | a + 1 => by
    rw [cq, cq, cq_step h i a]
    rcases Nat.lt_trichotomy a j with h1 | h1 | h1
    · rw [if_pos (show a < j + 1 by omega), if_pos h1, if_neg (fun e => by omega), if_neg (fun e => by omega)]; omega
    · subst h1
      rw [if_pos (show a < a + 1 by omega), if_neg (Nat.lt_irrefl a), if_neg (fun e => Nat.lt_irrefl a e.1), inO_succ h]
      by_cases he : i = gi (ordL L (gi f (a : Int))) (n : Int)
      · rw [if_pos he, if_pos ⟨by omega, he⟩]; omega
      · rw [if_neg he, if_neg (fun e => he e.2)]; omega
    · rw [if_neg (show ¬ a < j + 1 by omega), if_neg (show ¬ a < j by omega)]
      by_cases he : i = gi (ordL L (gi f (j : Int))) (n : Int)
      · rw [if_pos ⟨h1, he⟩, if_pos ⟨by omega, he⟩]; omega
      · rw [if_neg (fun e => he e.2), if_neg (fun e => he e.2)]; omega
theorem cq_end {L : List Itm} {f : List Int} {n j : Nat} (i : Int) : ∀ a, a ≤ j → cq L f n j i a = cq L f (n + 1) 0 i a
  | 0, _ => rfl
  | a + 1, h => by rw [cq, cq, cq_end i a (by omega), if_pos (show a < j by omega), if_neg (show ¬ a < 0 by omega)]
theorem cq_le (L : List Itm) (f : List Int) (n j : Nat) (i : Int) : ∀ a, cq L f n j i a ≤ a
  | 0 => Nat.le_refl _
  | a + 1 => by
    have := cq_le L f n j i a
    have := inO_le L (gi f (a : Int)) (if a < j then n + 1 else n) i
    rw [cq]; omega
theorem cq_zero (L : List Itm) (f : List Int) (i : Int) : ∀ a, cq L f 0 0 i a = 0
  | 0 => rfl
  | a + 1 => by rw [cq, cq_zero L f i a, if_neg (show ¬ a < 0 by omega)]; simp [inO]
/-- an item read everywhere beats what would be read next -/
def stp (L : List Itm) (f : List Int) (n : Nat) : Bool := exB L.length fun i => decide (cnt L f n (i : Int) = f.length) && exB f.length fun k => decide (fval (gi f (k : Int)) (gi L (i : Int)) < fval (gi f (k : Int)) (gi (byF L (gi f (k : Int))) (n : Int)))
def endF (L : List Itm) (f : List Int) : Nat → Nat
  | 0 => L.length
  | d + 1 => if stp L f (L.length - (d + 1)) then L.length - (d + 1) else endF L f d
def endN (L : List Itm) (f : List Int) : Nat := endF L f L.length
theorem endF_le (L : List Itm) (f : List Int) : ∀ d, endF L f d ≤ L.length
  | 0 => Nat.le_refl _
  | d + 1 => by
    have := endF_le L f d
    rw [endF]; split <;> omega
theorem endF_stop {L : List Itm} {f : List Int} {n : Nat} (h : n < L.length) (hs : stp L f n = true) : endF L f (L.length - n) = n := by
  obtain ⟨d, hd⟩ : ∃ d, L.length - n = d + 1 := ⟨L.length - n - 1, by omega⟩
  rw [hd, endF, show L.length - (d + 1) = n by omega, if_pos hs]
theorem endF_go {L : List Itm} {f : List Int} {n : Nat} (h : n < L.length) (hs : stp L f n = false) : endF L f (L.length - (n + 1)) = endF L f (L.length - n) := by
  obtain ⟨d, hd⟩ : ∃ d, L.length - n = d + 1 := ⟨L.length - n - 1, by omega⟩
  rw [hd, endF, show L.length - (d + 1) = n by omega, if_neg (by rw [hs]; decide), show L.length - (n + 1) = d by omega]
def pickI (L : List Itm) (p : Nat → Bool) : Nat → List Itm
  | 0 => []
  | n + 1 => pickI L p n ++ (if p n then [gi L (n : Int)] else [])
theorem pickI_len (L : List Itm) (p : Nat → Bool) : ∀ n, (pickI L p n).length ≤ n
  | 0 => Nat.le_refl _
  | n + 1 => by
    have := pickI_len L p n
    rw [pickI, List.length_append]; split <;> simp <;> omega
theorem pickI_t {L : List Itm} {p : Nat → Bool} {n : Nat} (h : p n = true) : pickI L p (n + 1) = pickI L p n ++ [gi L (n : Int)] := by rw [pickI, if_pos h]
theorem pickI_f {L : List Itm} {p : Nat → Bool} {n : Nat} (h : p n = false) : pickI L p (n + 1) = pickI L p n := by rw [pickI, if_neg (by simp [h]), List.append_nil]
theorem pickI_mem {L : List Itm} {p : Nat → Bool} {x : Itm} : ∀ n, x ∈ pickI L p n ↔ ∃ i, i < n ∧ p i = true ∧ x = gi L (i : Int)
  | 0 => by simp [pickI]
  | n + 1 => by
    rw [pickI, List.mem_append, pickI_mem n]
    constructor
    · rintro (⟨i, h1, h2⟩ | h)
      · exact ⟨i, by omega, h2⟩
      · split at h
        · rename_i hp
          rw [List.mem_singleton] at h
          exact ⟨n, by omega, hp, h⟩
        · simp at h
    · rintro ⟨i, h1, h2, h3⟩
      rcases Nat.lt_or_ge i n with h | h
      · exact .inl ⟨i, h, h2, h3⟩
      · obtain rfl : i = n := by omega
        right; rw [if_pos h2, h3]; simp
def seenI (L : List Itm) (f : List Int) : List Itm := pickI L (fun i => decide (0 < cnt L f (endN L f) (i : Int))) L.length
def sortedBest (L : List Itm) (f : List Int) : List Int × Int := if areItems L && isFieldList f then (bestL (seenI L f) (lowE f), (endN L f : Int) * f.length) else ([], 0)
theorem sortedBest_len (L : List Itm) (f : List Int) : (sortedBest L f).1.length ≤ 16 := by
  unfold sortedBest
  split
  · rename_i h
    simp only [Bool.and_eq_true] at h
    have h1 := (areItems_at h.1).2
    have h2 := bestL_len (seenI L f) (lowE f)
    have h3 := pickI_len L (fun i => decide (0 < cnt L f (endN L f) (i : Int))) L.length
    have : (seenI L f).length ≤ L.length := h3
    dsimp only; omega
  · simp
theorem field_at {f : List Int} (h : isFieldList f = true) {k : Nat} (hk : k < f.length) : 0 ≤ gi f (k : Int) ∧ gi f (k : Int) ≤ 2 := by
  simp only [isFieldList, Bool.and_eq_true] at h
  have := List.all_eq_true.1 h.1 k (by simpa using hk)
  simp only [ascAt, inR, Bool.and_eq_true, decide_eq_true_eq] at this
  exact this.1
/-- low wishes as a tree -/
def lowT (f : List Int) : Nat → Tr
  | 0 => .leaf ⟨0, gi f 0, 0, [], []⟩
  | n + 1 => .bin 1 (lowT f n) (.leaf ⟨0, gi f ((n + 1 : Nat) : Int), 0, [], []⟩)
theorem lowT_flat (f : List Int) : ∀ n, flat (lowT f n) = lowN f (n + 1)
  | 0 => by simp [lowT, flat, lowN, lowNode]
  | n + 1 => by
    rw [lowT, flat, lowT_flat f n]
    show _ = lowN f (n + 1) ++ _
    rw [if_neg (by omega)]
    rfl
theorem lowT_ok {f : List Int} (h : isFieldList f = true) : ∀ n, n < f.length → (lowT f n).ok
  | 0, hn => by
    have := field_at h hn
    show isWish _ = true
    simp [isWish, inR, ascL, allB]
    exact this
  | n + 1, hn => by
    refine ⟨.inl rfl, lowT_ok h n (by omega), ?_⟩
    have := field_at h hn
    show isWish _ = true
    simp [isWish, inR, ascL, allB]
    exact this
theorem lowE_tree {f : List Int} (h : isFieldList f = true) : lowE f = flat (lowT f (f.length - 1)) ∧ (lowT f (f.length - 1)).ok ∧ 0 < f.length := by
  have hpos : 0 < f.length := by simp only [isFieldList, Bool.and_eq_true, decide_eq_true_eq] at h; exact h.2
  refine ⟨?_, lowT_ok h _ (by omega), hpos⟩
  rw [lowE, if_pos h, lowT_flat, Nat.sub_add_cancel hpos]
theorem lowE_expr {f : List Int} (h : isFieldList f = true) : isExpr (lowE f) = true := by
  obtain ⟨h1, h2, h3⟩ := lowE_tree h
  have h4 := fieldList_len h
  have h5 := lowN_len f f.length
  rw [h1]
  refine tree_expr h2 ?_
  rw [lowT_flat, Nat.sub_add_cancel h3]; omega
theorem low_cmp (k : Int) (x y : Itm) : itemCmp ⟨0, k, 0, [], []⟩ x y = if fval k x < fval k y then 1 else if fval k y < fval k x then -1 else 0 := by
  simp [itemCmp, cmpV, rankV, fval]
  rfl
/-- in the first m fields one item is not above another -/
def loB (f : List Int) (x y : Itm) (m : Nat) : Bool := allB m fun k => decide (fval (gi f (k : Int)) x ≤ fval (gi f (k : Int)) y)
theorem loB_succ (f : List Int) (x y : Itm) (m : Nat) : loB f x y (m + 1) = (loB f x y m && decide (fval (gi f (m : Int)) x ≤ fval (gi f (m : Int)) y)) := allB_succ _ _
theorem lowT_ev (f : List Int) (x y : Itm) : ∀ n, (lowT f n).ev x y =
    if loB f x y (n + 1) = true then (if loB f y x (n + 1) = true then 0 else 1) else (if loB f y x (n + 1) = true then -1 else 2)
  | 0 => by
    rw [loB_succ, loB_succ]
    have e : ∀ x y, loB f x y 0 = true := fun _ _ => rfl
    rw [e, e, lowT, Tr.ev, low_cmp]
    simp only [Bool.true_and, decide_eq_true_eq, Int.natCast_zero]
    generalize fval (gi f 0) x = a
    generalize fval (gi f 0) y = b
    rcases Int.lt_trichotomy a b with h | h | h
    · rw [if_pos h, if_pos (by omega), if_neg (by omega)]
    · rw [if_neg (by omega), if_neg (by omega), if_pos (by omega), if_pos (by omega)]
    · rw [if_neg (by omega), if_pos h, if_neg (by omega), if_pos (by omega)]
  | n + 1 => by
    rw [loB_succ, loB_succ f y x, lowT, Tr.ev, lowT_ev f x y n, Tr.ev, low_cmp]
    generalize loB f x y (n + 1) = A
    generalize loB f y x (n + 1) = B
    generalize fval (gi f ((n + 1 : Nat) : Int)) x = a
    generalize fval (gi f ((n + 1 : Nat) : Int)) y = b
    rcases Int.lt_trichotomy a b with h | h | h
    · have h1 : decide (a ≤ b) = true := decide_eq_true (by omega)
      have h2 : decide (b ≤ a) = false := decide_eq_false (by omega)
      have h3 : (if a < b then (1 : Int) else if b < a then -1 else 0) = 1 := if_pos h
      rw [h1, h2, h3]
      cases A <;> cases B <;> rfl
    · have h1 : decide (a ≤ b) = true := decide_eq_true (by omega)
      have h2 : decide (b ≤ a) = true := decide_eq_true (by omega)
      have h3 : (if a < b then (1 : Int) else if b < a then -1 else 0) = 0 := by rw [if_neg (by omega), if_neg (by omega)]
      rw [h1, h2, h3]
      cases A <;> cases B <;> rfl
    · have h1 : decide (a ≤ b) = false := decide_eq_false (by omega)
      have h2 : decide (b ≤ a) = true := decide_eq_true (by omega)
      have h3 : (if a < b then (1 : Int) else if b < a then -1 else 0) = -1 := by rw [if_neg (by omega), if_pos h]
      rw [h1, h2, h3]
      cases A <;> cases B <;> rfl
/-- better by low wishes: not above in any field, not below in all -/
theorem low_better {f : List Int} (h : isFieldList f = true) (x y : Itm) : cmpE (lowE f) x y = 1 ↔ loB f x y f.length = true ∧ loB f y x f.length = false := by
  obtain ⟨h1, h2, h3⟩ := lowE_tree h
  rw [h1, cmpE_ev h2, lowT_ev, Nat.sub_add_cancel h3]
  cases loB f x y f.length <;> cases loB f y x f.length <;> simp
end Go.E
set_option linter.unusedVariables false
set_option linter.unusedSimpArgs false
namespace Go.E
open Go Go.RowKit Go.Proofs
theorem item_vals {L : List Itm} (hit : ∀ i : Nat, i < L.length → isItem (gi L (i : Int)) = true) {i : Int} (h0 : 0 ≤ i) (h1 : i < L.length) : (gi L i).vals.length = 3 := by
  have := isItem_len (hit i.toNat (by omega))
  rwa [show ((i.toNat : Nat) : Int) = i by omega] at this
theorem gi_map_ord {L : List Itm} {f : List Int} {k : Nat} (h : k < f.length) : gi (f.map (ordL L)) (k : Int) = ordL L (gi f (k : Int)) := gi_mapI h
attribute [local irreducible] W WL WD WE thenE inE retQ PureOp Keep Cell Cells Blk Sl Rows Own Src Fresh
attribute [local irreducible] ordL byF cnt cq

set_option maxHeartbeats 2000000 in
theorem l9Stop_ok {w : World} {v u vl vc : Value} {L : List Itm} {f cs : List Int} {fp gp hp kp : List Nat} {n : Nat} (hL : Sl itemR w v L fp) (hf : Sl intR w u f gp) (hls : Sl (slR intR) w vl (f.map (ordL L)) hp) (hc : Sl intR w vc cs kp)
    (hn : n < L.length) (hcl : cs.length = L.length) (hcs : ∀ i : Nat, i < L.length → gi cs (i : Int) = (cnt L f n (i : Int) : Int)) (hit : ∀ i : Nat, i < L.length → isItem (gi L (i : Int)) = true) (hff : isFieldList f = true) :
    Run Tryz.prog 27 [v, u, vl, .int .i64 (n : Int), vc] w (fun r w' => r = .bool (stp L f n) ∧ Keep w w') := by
  have hnL := hL.le
  have hnf := hf.le
  have hle : ∀ i : Nat, cnt L f n (i : Int) ≤ f.length := fun i => by unfold cnt; exact cq_le _ _ _ _ _ _
  obtain ⟨A, nL, cL, rfl, hlL⟩ := hL.split
  obtain ⟨B, nf, cf_, rfl, hlf⟩ := hf.split
  obtain ⟨C, nl, cl, rfl, hll⟩ := hls.split
  obtain ⟨D, nc, cc, rfl, hlc⟩ := hc.split
  rw [List.length_map] at hll
  have hdn : decide ((n : Int) < (nL : Int)) = true := decide_eq_true (by omega)
  have hst : stp L f n = exB L.length fun i => decide (cnt L f n (i : Int) = f.length) && exB f.length fun k => decide (fval (gi f (k : Int)) (gi L (i : Int)) < fval (gi f (k : Int)) (gi (byF L (gi f (k : Int))) (n : Int))) := rfl
  refine Run_intro Tryz.func27 (by unfold CallOk; kernel_rfl) rfl Tryz.ntmps27 (Nat.le_of_ble_eq_true rfl) ?_
  simp only [penv, Nat.reduceAdd, Nat.zero_add]
  repeat refine zz ?_
  refine W_loop (S := Nat) (fun i => [(0, .slice A nL cL), (1, .slice B nf cf_), (2, .slice C nl cl), (3, .int .i64 (n : Int)), (4, .slice D nc cc), (11, .int .i64 (i : Int))]) (fun i w' => Keep w w' ∧ i ≤ nL ∧ ∀ a, a < i → (fun i : Nat => decide (cnt L f n (i : Int) = f.length) && exB f.length fun k => decide (fval (gi f (k : Int)) (gi L (i : Int)) < fval (gi f (k : Int)) (gi (byF L (gi f (k : Int))) (n : Int)))) a = false) (fun i => nL - i) 0 ⟨rfl, rfl, rfl, rfl, rfl, rfl, trivial⟩ ⟨Keep.refl _, Nat.zero_le _, fun a h => absurd h (by omega)⟩ ?_
  rintro i wa ⟨hka, hi, hall⟩
  have hLa := hL.keep hka
  have hfa := hf.keep hka
  have hlsa := hls.keep hka
  have hca := hc.keep hka
  repeat refine zz ?_
  refine W_cond rfl (fun hc1 => ?_) (fun hc1 => ?_)
  · simp at hc1
    have hin : i < nL := by omega
    obtain ⟨hD, hcell⟩ := hca.getI (i := (i : Int)) (by omega) (by omega)
    rw [hcs i (by omega)] at hcell
    have hlei := hle i
    repeat refine zz ?_
    refine W_cond rfl (fun hc2 => ?_) (fun hc2 => ?_)
    · simp at hc2
      have hno : decide (cnt L f n (i : Int) = f.length) = false := decide_eq_false (by omega)
      repeat refine zz ?_
      exact ⟨i + 1, ⟨rfl, rfl, rfl, rfl, rfl, rfl, trivial⟩, ⟨hka, by omega, all_no hall (by rw [hno]; rfl)⟩, by omega⟩
    simp at hc2
    have hyes : decide (cnt L f n (i : Int) = f.length) = true := decide_eq_true (by omega)
    repeat refine zz ?_
    refine W_loop (S := Nat) (fun k => [(0, .slice A nL cL), (1, .slice B nf cf_), (2, .slice C nl cl), (3, .int .i64 (n : Int)), (4, .slice D nc cc), (11, .int .i64 (i : Int)), (12, .int .i64 (k : Int))]) (fun k w' => Keep w w' ∧ k ≤ nf ∧ ∀ a, a < k → (fun k : Nat => decide (fval (gi f (k : Int)) (gi L (i : Int)) < fval (gi f (k : Int)) (gi (byF L (gi f (k : Int))) (n : Int)))) a = false) (fun k => nf - k) 0 ⟨rfl, rfl, rfl, rfl, rfl, rfl, rfl, trivial⟩ ⟨hka, Nat.zero_le _, fun a h => absurd h (by omega)⟩ ?_
    clear hLa hfa hlsa hca hcell
    rintro k wb ⟨hkb, hk, hall2⟩
    have hLb := hL.keep hkb
    have hfb := hf.keep hkb
    have hlsb := hls.keep hkb
    repeat refine zz ?_
    refine W_cond rfl (fun hc3 => ?_) (fun hc3 => ?_)
    · simp at hc3
      have hkf : k < nf := by omega
      have hfk := field_at hff (k := k) (by omega)
      have hok := ord_at (L := L) (k := gi f (k : Int)) hn
      obtain ⟨hB, hcf⟩ := hfb.getI (i := (k : Int)) (by omega) (by omega)
      obtain ⟨hC, u1, f1, hcl1, hu1, _⟩ := slR_get hlsb (i := (k : Int)) (by omega) (by omega)
      rw [gi_map_ord (by omega)] at hu1
      obtain ⟨A1, n1, c1, rfl, hn1⟩ := hu1.split
      rw [ordL_len] at hn1
      obtain ⟨hA1, hc11⟩ := hu1.getI (i := (n : Int)) (by omega) (by omega)
      obtain ⟨hA, u2, f2, hcell2, hu2, _⟩ := item_get hLb (i := gi (ordL L (gi f (k : Int))) (n : Int)) (by omega) (by omega)
      obtain ⟨_, u3, f3, hcell3, hu3, _⟩ := item_get hLb (i := (i : Int)) (by omega) (by omega)
      have hv2 := item_vals hit (i := gi (ordL L (gi f (k : Int))) (n : Int)) (by omega) (by omega)
      have hv3 := item_vals hit (i := (i : Int)) (by omega) (by omega)
      obtain ⟨A2, n2, c2, rfl, hn2⟩ := hu2.split
      obtain ⟨A3, n3, c3, rfl, hn3⟩ := hu3.split
      obtain ⟨hA2, hc22⟩ := hu2.getI (i := gi f (k : Int)) (by omega) (by omega)
      obtain ⟨hA3, hc33⟩ := hu3.getI (i := gi f (k : Int)) (by omega) (by omega)
      have e2 : gi (gi L (gi (ordL L (gi f (k : Int))) (n : Int))).vals (gi f (k : Int)) = fval (gi f (k : Int)) (gi (byF L (gi f (k : Int))) (n : Int)) := by rw [byF_at hn]; rfl
      have e3 : gi (gi L (i : Int)).vals (gi f (k : Int)) = fval (gi f (k : Int)) (gi L (i : Int)) := rfl
      rw [e2] at hc22
      rw [e3] at hc33
      repeat refine zz ?_
      refine W_quiet (Keep wb) (by kernel_rfl) (by kernel_rfl) (Keep.drew _) ?_
      repeat refine qq ?_
      rw [hdn]
      repeat refine qq ?_
      intro wd hkd 
      repeat refine zz ?_
      refine W_cond rfl (fun hd => ?_) (fun hd => ?_)
      · repeat refine zz ?_
        refine ret1 rfl rfl ⟨?_, hkb.keep hkd⟩
        rw [hst, exB_t (k := i) (by omega) (by rw [hyes, exB_t (k := k) (by omega) hd]; rfl)]
      · repeat refine zz ?_
        exact ⟨k + 1, ⟨rfl, rfl, rfl, rfl, rfl, rfl, rfl, trivial⟩, ⟨hkb.keep hkd, by omega, all_no hall2 hd⟩, by omega⟩
    · simp at hc3
      obtain rfl : k = nf := by omega
      repeat refine zz ?_
      exact ⟨i + 1, ⟨rfl, rfl, rfl, rfl, rfl, rfl, trivial⟩, ⟨hkb, by omega, all_no hall (by rw [exB_f (fun a ha => hall2 a (by omega))]; simp)⟩, by omega⟩
  · simp at hc1
    obtain rfl : i = nL := by omega
    repeat refine zz ?_
    refine ret1 rfl rfl ⟨?_, hka⟩
    rw [hst, exB_f (fun a ha => hall a (by omega))]
end Go.E
set_option linter.unusedVariables false
set_option linter.unusedSimpArgs false
namespace Go.E
open Go Go.RowKit Go.Proofs
/-- not above in any field, below in one -/
def lwr (f a b : List Int) : Bool := (allB f.length fun k => decide (gi a (gi f (k : Int)) ≤ gi b (gi f (k : Int)))) && exB f.length fun k => decide (gi a (gi f (k : Int)) < gi b (gi f (k : Int)))
def minL (a b : List Int) : List Int := List.zipWith min a b
theorem minL_len {a b : List Int} (h : a.length = b.length) : (minL a b).length = a.length := by rw [minL, List.length_zipWith]; omega
theorem minL_self (a : List Int) : minL a a = a := by
  induction a with
  | nil => rfl
  | cons x r ih => simp only [minL, List.zipWith_cons_cons, Int.min_self] at *; rw [ih]
theorem minL_at {a b : List Int} {k : Nat} (ha : k < a.length) (hb : k < b.length) : gi (minL a b) (k : Int) = min (gi a (k : Int)) (gi b (k : Int)) := by
  rw [gi_lt (by rw [minL, List.length_zipWith]; omega), gi_lt ha, gi_lt hb]
  simp [minL]
/-- the least values of the first n items -/
def crn (M : List Itm) : Nat → List Int
  | 0 => (gi M 0).vals
  | n + 1 => minL (crn M n) (gi M (n : Int)).vals
theorem crn_succ (M : List Itm) (n : Nat) : crn M (n + 1) = minL (crn M n) (gi M (n : Int)).vals := rfl
theorem crn_1 (M : List Itm) : crn M 1 = (gi M 0).vals := by rw [crn, crn]; exact minL_self _
theorem crn_len {M : List Itm} (h : ∀ i : Nat, i < M.length → (gi M (i : Int)).vals.length = 3) (h0 : 0 < M.length) : ∀ n, n ≤ M.length → (crn M n).length = 3
  | 0, _ => h 0 h0
  | n + 1, hn => by
    have h1 := crn_len h h0 n (by omega)
    have h2 := h n (by omega)
    rw [crn, minL_len (by omega)]; exact h1
def cutN (f : List Int) (F : List Itm) (c : List Int) (k : Nat) : Bool := exB k fun i => lwr f (gi F (i : Int)).vals c
theorem cutN_succ (f : List Int) (F : List Itm) (c : List Int) (k : Nat) : cutN f F c (k + 1) = (cutN f F c k || lwr f (gi F (k : Int)).vals c) := by
  unfold cutN exB
  rw [allB_succ]
  simp only [Bool.not_and, Bool.not_not]
def cut (f : List Int) (F : List Itm) (c : List Int) : Bool := cutN f F c F.length
theorem cut_iff {f : List Int} {F : List Itm} {c : List Int} : cut f F c = true ↔ ∃ y, y ∈ F ∧ lwr f y.vals c = true := by
  unfold cut cutN
  rw [exB_iff]
  constructor
  · rintro ⟨k, hk, h⟩; exact ⟨_, gi_mem hk, h⟩
  · rintro ⟨y, hy, h⟩
    obtain ⟨k, hk, rfl⟩ := List.getElem_of_mem hy
    exact ⟨k, hk, by rw [gi_lt hk]; exact h⟩
/-- an item more among those found -/
def addB (f : List Int) (F : List Itm) (x : Itm) : List Itm := if cut f F x.vals then F else F.filter (fun y => !lwr f x.vals y.vals) ++ [x]
theorem addB_len (f : List Int) (F : List Itm) (x : Itm) : (addB f F x).length ≤ F.length + 1 := by
  unfold addB
  split
  · omega
  · have := List.length_filter_le (fun y => !lwr f x.vals y.vals) F
    rw [List.length_append, List.length_cons, List.length_nil]; omega
def leafN (f : List Int) (M : List Itm) (S : List Itm × Nat) : Nat → List Itm × Nat
  | 0 => S
  | k + 1 => (addB f (leafN f M S k).1 (gi M (k : Int)), (leafN f M S k).2 + 1)
theorem leafN_bd (f : List Int) (M : List Itm) (S : List Itm × Nat) : ∀ k, (leafN f M S k).1.length ≤ S.1.length + k ∧ (leafN f M S k).2 = S.2 + k
  | 0 => ⟨Nat.le_refl _, rfl⟩
  | k + 1 => by
    have h1 := leafN_bd f M S k
    have h2 := addB_len f (leafN f M S k).1 (gi M (k : Int))
    rw [leafN]; dsimp only; omega
def boxP (f : List Int) : Nat → List Itm → Nat → List Itm × Nat → List Itm × Nat
  | 0, _, _, S => S
  | N + 1, M, d, S =>
    if M.length = 0 then S
    else if cut f S.1 (crn M M.length) then S
    else if 2 < M.length then boxP f N ((byF M (gi f ((d % f.length : Nat) : Int))).drop (M.length / 2)) (d + 1) (boxP f N ((byF M (gi f ((d % f.length : Nat) : Int))).take (M.length / 2)) (d + 1) S)
    else leafN f M S M.length
theorem boxP_bd (f : List Int) : ∀ (N : Nat) (M : List Itm) (d : Nat) (S : List Itm × Nat), (boxP f N M d S).1.length ≤ S.1.length + M.length ∧ (boxP f N M d S).2 ≤ S.2 + M.length
  | 0, M, d, S => ⟨Nat.le_add_right _ _, Nat.le_add_right _ _⟩
  | N + 1, M, d, S => by
    rw [boxP]
    split
    · exact ⟨Nat.le_add_right _ _, Nat.le_add_right _ _⟩
    split
    · exact ⟨Nat.le_add_right _ _, Nat.le_add_right _ _⟩
    split
    · have h1 := boxP_bd f N ((byF M (gi f ((d % f.length : Nat) : Int))).take (M.length / 2)) (d + 1) S
      have h2 := boxP_bd f N ((byF M (gi f ((d % f.length : Nat) : Int))).drop (M.length / 2)) (d + 1) (boxP f N ((byF M (gi f ((d % f.length : Nat) : Int))).take (M.length / 2)) (d + 1) S)
      rw [List.length_take, byF_len] at h1
      rw [List.length_drop, byF_len] at h2
      omega
    · have := leafN_bd f M S M.length
      omega
theorem box_nil {f : List Int} {N : Nat} {M : List Itm} {d : Nat} {S : List Itm × Nat} (h : M.length = 0) : boxP f (N + 1) M d S = S := by rw [boxP, if_pos h]
theorem box_cut {f : List Int} {N : Nat} {M : List Itm} {d : Nat} {S : List Itm × Nat} (h : M.length ≠ 0) (hc : cut f S.1 (crn M M.length) = true) : boxP f (N + 1) M d S = S := by rw [boxP, if_neg h, if_pos hc]
theorem box_more {f : List Int} {N : Nat} {M : List Itm} {d : Nat} {S : List Itm × Nat} (hc : cut f S.1 (crn M M.length) = false) (h2 : 2 < M.length) :
    boxP f (N + 1) M d S = boxP f N ((byF M (gi f ((d % f.length : Nat) : Int))).drop (M.length / 2)) (d + 1) (boxP f N ((byF M (gi f ((d % f.length : Nat) : Int))).take (M.length / 2)) (d + 1) S) := by
  rw [boxP, if_neg (by omega), if_neg (by rw [hc]; decide), if_pos h2]
theorem box_leaf {f : List Int} {N : Nat} {M : List Itm} {d : Nat} {S : List Itm × Nat} (h : M.length ≠ 0) (hc : cut f S.1 (crn M M.length) = false) (h2 : ¬ 2 < M.length) : boxP f (N + 1) M d S = leafN f M S M.length := by
  rw [boxP, if_neg h, if_neg (by rw [hc]; decide), if_neg h2]
def boxBest (L : List Itm) (f : List Int) : List Int × Int := if areItems L && isFieldList f then (sortP id (idsOf (boxP f L.length L 0 ([], 0)).1), ((boxP f L.length L 0 ([], 0)).2 : Int)) else ([], 0)
theorem boxBest_len (L : List Itm) (f : List Int) : (boxBest L f).1.length ≤ 16 := by
  unfold boxBest
  split
  · rename_i h
    simp only [Bool.and_eq_true] at h
    have h1 := (areItems_at h.1).2
    have h2 := (boxP_bd f L.length L 0 ([], 0)).1
    simp only [List.length_nil] at h2
    dsimp only
    rw [sortP_len, idsOf_len]; omega
  · simp
theorem byF_sub {M : List Itm} {k : Int} {x : Itm} : x ∈ byF M k ↔ x ∈ M := (sortP_perm _ _).mem_iff
end Go.E
set_option linter.unusedVariables false
set_option linter.unusedSimpArgs false
namespace Go.E
open Go Go.RowKit Go.Proofs
def lessN (f a b : List Int) (k : Nat) : Bool := exB k fun i => decide (gi a (gi f (i : Int)) < gi b (gi f (i : Int)))
theorem lessN_succ (f a b : List Int) (k : Nat) : lessN f a b (k + 1) = (lessN f a b k || decide (gi a (gi f (k : Int)) < gi b (gi f (k : Int)))) := by
  unfold lessN exB
  rw [allB_succ]
  simp only [Bool.not_and, Bool.not_not]
theorem lwr_eq (f a b : List Int) : lwr f a b = ((allB f.length fun k => decide (gi a (gi f (k : Int)) ≤ gi b (gi f (k : Int)))) && lessN f a b f.length) := rfl
attribute [local irreducible] W WL WD WE thenE inE retQ PureOp Keep Cell Cells Blk Sl Rows Own Src Fresh
attribute [local irreducible] lessN

set_option maxHeartbeats 1000000 in
theorem l9Below_ok {w : World} {va vb u : Value} {a b f : List Int} {fa fb gp : List Nat} (ha : Sl intR w va a fa) (hb : Sl intR w vb b fb) (hf : Sl intR w u f gp) (la : a.length = 3) (lb : b.length = 3) (hff : isFieldList f = true) :
    Run Tryz.prog 60 [va, vb, u] w (fun r w' => r = .bool (lwr f a b) ∧ Keep w w') := by
  have hnf := hf.le
  obtain ⟨A, na, ca, rfl, hla⟩ := ha.split
  obtain ⟨B, nb, cb, rfl, hlb⟩ := hb.split
  obtain ⟨C, nf, cf_, rfl, hlf⟩ := hf.split
  refine Run_intro Tryz.func60 (by unfold CallOk; kernel_rfl) rfl Tryz.ntmps60 (Nat.le_of_ble_eq_true rfl) ?_
  simp only [penv, Nat.reduceAdd, Nat.zero_add]
  repeat refine zz ?_
  refine W_loop (S := Nat) (fun k => [(0, .slice A na ca), (1, .slice B nb cb), (2, .slice C nf cf_), (7, .bool (lessN f a b k)), (8, .int .i64 (k : Int))]) (fun k w' => Keep w w' ∧ k ≤ nf ∧ ∀ i, i < k → (fun k : Nat => decide (gi a (gi f (k : Int)) ≤ gi b (gi f (k : Int)))) i = true) (fun k => nf - k) 0 ⟨rfl, rfl, rfl, by unfold lessN; rfl, rfl, trivial⟩ ⟨Keep.refl _, Nat.zero_le _, fun i h => absurd h (by omega)⟩ ?_
  rintro k wa ⟨hka, hk, hall⟩
  have haa := ha.keep hka
  have hba := hb.keep hka
  have hfa := hf.keep hka
  repeat refine zz ?_
  refine W_cond rfl (fun hc => ?_) (fun hc => ?_)
  · simp at hc
    have hkf : k < nf := by omega
    have hfk := field_at hff (k := k) (by omega)
    obtain ⟨hC, hcf⟩ := hfa.getI (i := (k : Int)) (by omega) (by omega)
    obtain ⟨hA, hca⟩ := haa.getI (i := gi f (k : Int)) (by omega) (by omega)
    obtain ⟨hB, hcb⟩ := hba.getI (i := gi f (k : Int)) (by omega) (by omega)
    repeat refine zz ?_
    refine W_quiet (Keep wa) (by kernel_rfl) (by kernel_rfl) (Keep.drew _) ?_
    repeat refine qq ?_
    intro wd hkd 
    replace hka := hka.keep hkd
    repeat refine zz ?_
    refine W_cond rfl (fun hd => ?_) (fun hd => ?_)
    · simp at hd
      repeat refine zz ?_
      exact ret1 rfl rfl ⟨by rw [lwr_eq, allB_false (k := k) (by omega) (decide_eq_false (by omega))]; rfl, hka⟩
    simp at hd
    have haa := ha.keep hka
    have hba := hb.keep hka
    have hfa := hf.keep hka
    obtain ⟨hC, hcf⟩ := hfa.getI (i := (k : Int)) (by omega) (by omega)
    obtain ⟨hA, hca⟩ := haa.getI (i := gi f (k : Int)) (by omega) (by omega)
    obtain ⟨hB, hcb⟩ := hba.getI (i := gi f (k : Int)) (by omega) (by omega)
    have hs := lessN_succ f a b k
    cases hl : lessN f a b k with
    | true =>
      rw [hl] at hs
      repeat refine zz ?_
      refine W_quiet (Keep wd) (by kernel_rfl) (by kernel_rfl) (Keep.drew _) ?_
      repeat refine qq ?_
      intro we hke 
      repeat refine zz ?_
      exact ⟨k + 1, ⟨rfl, rfl, rfl, by rw [hs]; rfl, rfl, trivial⟩, ⟨hka.keep hke, by omega, all_step hall (decide_eq_true hd)⟩, by omega⟩
    | false =>
      rw [hl, Bool.false_or] at hs
      repeat refine zz ?_
      refine W_quiet (Keep wd) (by kernel_rfl) (by kernel_rfl) (Keep.drew _) ?_
      repeat refine qq ?_
      intro we hke 
      repeat refine zz ?_
      exact ⟨k + 1, ⟨rfl, rfl, rfl, by rw [hs]; rfl, rfl, trivial⟩, ⟨hka.keep hke, by omega, all_step hall (decide_eq_true hd)⟩, by omega⟩
  · simp at hc
    have hkn : k = f.length := by omega
    repeat refine zz ?_
    exact ret1 rfl rfl ⟨by rw [lwr_eq, allB_true (fun i hi => hall i (by omega)), Bool.true_and, hkn], hka⟩

set_option maxHeartbeats 1000000 in
theorem lower_ok {w : World} {va vb u : Value} {a b f : List Int} {fa fb gp : List Nat} (hf : Sl intR w u f gp) (ha : Sl intR w va a fa) (hb : Sl intR w vb b fb) (la : a.length = 3) (lb : b.length = 3) (hff : isFieldList f = true) :
    Run Tryz.prog 33 [u, va, vb] w (fun r w' => r = .bool (lwr f a b) ∧ Keep w w') := by
  have hnf := hf.le
  obtain ⟨A, na, ca, rfl, hla⟩ := ha.split
  obtain ⟨B, nb, cb, rfl, hlb⟩ := hb.split
  obtain ⟨C, nf, cf_, rfl, hlf⟩ := hf.split
  refine Run_intro Tryz.func33 (by unfold CallOk; kernel_rfl) rfl Tryz.ntmps33 (Nat.le_of_ble_eq_true rfl) ?_
  simp only [penv, Nat.reduceAdd, Nat.zero_add]
  repeat refine zz ?_
  refine W_loop (S := Nat) (fun k => [(1, .slice A na ca), (2, .slice B nb cb), (10, .slice C nf cf_), (11, .int .i64 (nf : Int)), (7, .bool (lessN f a b k)), (12, .int .i64 (k : Int))]) (fun k w' => Keep w w' ∧ k ≤ nf ∧ ∀ i, i < k → (fun k : Nat => decide (gi a (gi f (k : Int)) ≤ gi b (gi f (k : Int)))) i = true) (fun k => nf - k) 0 ⟨rfl, rfl, rfl, rfl, by unfold lessN; rfl, rfl, trivial⟩ ⟨Keep.refl _, Nat.zero_le _, fun i h => absurd h (by omega)⟩ ?_
  rintro k wa ⟨hka, hk, hall⟩
  have haa := ha.keep hka
  have hba := hb.keep hka
  have hfa := hf.keep hka
  repeat refine zz ?_
  refine W_cond rfl (fun hc => ?_) (fun hc => ?_)
  · simp at hc
    have hkf : k < nf := by omega
    have hfk := field_at hff (k := k) (by omega)
    obtain ⟨hC, hcf⟩ := hfa.getI (i := (k : Int)) (by omega) (by omega)
    obtain ⟨hA, hca⟩ := haa.getI (i := gi f (k : Int)) (by omega) (by omega)
    obtain ⟨hB, hcb⟩ := hba.getI (i := gi f (k : Int)) (by omega) (by omega)
    repeat refine zz ?_
    refine W_quiet (Keep wa) (by kernel_rfl) (by kernel_rfl) (Keep.drew _) ?_
    repeat refine qq ?_
    intro wd hkd 
    replace hka := hka.keep hkd
    repeat refine zz ?_
    refine W_cond rfl (fun hd => ?_) (fun hd => ?_)
    · simp at hd
      repeat refine zz ?_
      exact ret1 rfl rfl ⟨by rw [lwr_eq, allB_false (k := k) (by omega) (decide_eq_false (by omega))]; rfl, hka⟩
    simp at hd
    have haa := ha.keep hka
    have hba := hb.keep hka
    obtain ⟨hA, hca⟩ := haa.getI (i := gi f (k : Int)) (by omega) (by omega)
    obtain ⟨hB, hcb⟩ := hba.getI (i := gi f (k : Int)) (by omega) (by omega)
    have hs := lessN_succ f a b k
    cases hl : lessN f a b k with
    | true =>
      rw [hl] at hs
      repeat refine zz ?_
      refine W_quiet (Keep wd) (by kernel_rfl) (by kernel_rfl) (Keep.drew _) ?_
      repeat refine qq ?_
      intro we hke 
      repeat refine zz ?_
      exact ⟨k + 1, ⟨rfl, rfl, rfl, rfl, by rw [hs]; rfl, rfl, trivial⟩, ⟨hka.keep hke, by omega, all_step hall (decide_eq_true hd)⟩, by omega⟩
    | false =>
      rw [hl, Bool.false_or] at hs
      repeat refine zz ?_
      refine W_quiet (Keep wd) (by kernel_rfl) (by kernel_rfl) (Keep.drew _) ?_
      repeat refine qq ?_
      intro we hke 
      repeat refine zz ?_
      exact ⟨k + 1, ⟨rfl, rfl, rfl, rfl, by rw [hs]; rfl, rfl, trivial⟩, ⟨hka.keep hke, by omega, all_step hall (decide_eq_true hd)⟩, by omega⟩
  · simp at hc
    have hkn : k = f.length := by omega
    repeat refine zz ?_
    exact ret1 rfl rfl ⟨by rw [lwr_eq, allB_true (fun i hi => hall i (by omega)), Bool.true_and, hkn], hka⟩
end Go.E
set_option linter.unusedVariables false
set_option linter.unusedSimpArgs false
namespace Go.E
open Go Go.RowKit Go.Proofs
/-- the least values, reckoned in the first k places -/
def partM (c v : List Int) (k : Nat) : List Int := (minL c v).take k ++ c.drop k
theorem partM_0 (c v : List Int) : partM c v 0 = c := by simp [partM]
theorem partM_end {c v : List Int} {k : Nat} (hl : c.length = v.length) (hk : c.length ≤ k) : partM c v k = minL c v := by
  rw [partM, List.drop_of_length_le hk, List.append_nil, List.take_of_length_le (by rw [minL_len hl]; exact hk)]
theorem partM_len {c v : List Int} (hl : c.length = v.length) (k : Nat) : (partM c v k).length = c.length := by
  rw [partM, List.length_append, List.length_take, List.length_drop, minL_len hl]; omega
theorem partM_at {c v : List Int} {k : Nat} (hl : c.length = v.length) (hk : k < c.length) : gi (partM c v k) (k : Int) = gi c (k : Int) := by
  rw [gi_lt (by rw [partM_len hl]; exact hk), gi_lt hk]
  have h1 : ((minL c v).take k).length = k := by rw [List.length_take, minL_len hl]; omega
  simp only [partM]
  rw [List.getElem_append_right (by omega)]
  simp [h1]
theorem partM_set {c v : List Int} {k : Nat} (hl : c.length = v.length) (hk : k < c.length) : (partM c v k).set k (min (gi c (k : Int)) (gi v (k : Int))) = partM c v (k + 1) := by
  have h1 : ((minL c v).take k).length = k := by rw [List.length_take, minL_len hl]; omega
  rw [partM, List.set_append_right _ _ (by omega), h1, Nat.sub_self, drop_gi hk, List.set_cons_zero, partM, take_gi (by rw [minL_len hl]; exact hk), minL_at hk (by omega), List.append_assoc]
  rfl
attribute [local irreducible] W WL WD WE thenE inE retQ PureOp Keep Cell Cells Blk Sl Rows Own Src Fresh
attribute [local irreducible] partM crn

set_option maxHeartbeats 2000000 in
theorem l9Corner_ok {w : World} {v : Value} {M : List Itm} {fm : List Nat} (hM : Sl itemR w v M fm) (h0 : 0 < M.length) (h16 : M.length ≤ 16) (hv3 : ∀ i : Nat, i < M.length → (gi M (i : Int)).vals.length = 3) :
    Run Tryz.prog 59 [v] w (fun r w' => Keep w w' ∧ ∃ fp, Sl intR w' r (crn M M.length) fp ∧ Fresh w.heap.size w' fp) := by
  obtain ⟨A, n, c, rfl, hnx⟩ := hM.split
  have hd := hM.dom
  refine Run_intro Tryz.func59 (by unfold CallOk; kernel_rfl) rfl Tryz.ntmps59 (Nat.le_of_ble_eq_true rfl) ?_
  simp only [penv, Nat.reduceAdd, Nat.zero_add]
  repeat refine zz ?_
  refine o_buildSlice rfl rfl rfl rfl rfl (by intro p hp; cases hp) (by omega) ?_
  intro bO wO halO
  have hkO := halO.kp
  have zO := halO.b_eq
  have sO := halO.size
  have ho1 : OwnF intR wO w.heap.size 3 (.slice (some ⟨bO, 0, none⟩) 0 0) [] [] := OwnF.made halO.blk (by omega)
  have hMO := hM.keep hkO
  obtain ⟨hA0, u0, f0, hcell0, hu0, _⟩ := item_get hMO (i := 0) (by omega) (by omega)
  have hl0 : (gi M 0).vals.length = 3 := hv3 0 h0
  obtain ⟨A0, n0, c0, rfl, hn0⟩ := hu0.split
  have hsrc := hu0.srcI
  have o0 := hu0.oneCell
  repeat refine zz ?_
  refine o_appendF (R := intR) (M := _) (gi := []) rfl rfl rfl rfl rfl (by decide) ho1 hsrc hn0 (Fresh.nil _ _) (fun b hb => by cases hb) (fun b hb => (ho1.lt hb).2) (fun b hb => by cases hb) (by simp only [List.length_nil]; omega) (by simp only [List.length_nil]; omega) (by omega) ?_
  intro vN wN hoN hbN hgN
  rw [List.nil_append, List.nil_append] at hoN
  have hkN : Keep w wN := hkO.grown hgN (fun b hb => (ho1.lt hb).1)
  rw [show (gi M 0).vals = crn M 1 from (crn_1 M).symm] at hoN
  obtain ⟨Ac, nc, cc, rfl, hnc, _⟩ := hoN.split
  rw [crn_len hv3 h0 1 (by omega)] at hnc
  clear ho1 hsrc hu0 hcell0 hMO
  repeat refine zz ?_
  refine W_loop (S := Nat) (fun i => [(0, .slice A n c), (3, .slice Ac nc cc), (4, .int .i64 (i : Int))]) (fun i w' => Keep w w' ∧ (1 ≤ i ∧ i ≤ n) ∧ OwnF intR w' w.heap.size 3 (.slice Ac nc cc) (crn M i) []) (fun i => n - i) 1 ⟨rfl, rfl, rfl, trivial⟩ ⟨hkN, ⟨Nat.le_refl _, by omega⟩, hoN⟩ ?_
  clear hkN hoN
  rintro i wa ⟨hka, ⟨hi1, hi⟩, hoa⟩
  repeat refine zz ?_
  refine W_cond rfl (fun hc => ?_) (fun hc => ?_)
  · simp at hc
    have hin : i < n := by omega
    have hlc := crn_len hv3 h0 i (by omega)
    have hlv := hv3 i (by omega)
    repeat refine zz ?_
    refine W_loop (S := Nat) (fun k => [(0, .slice A n c), (3, .slice Ac nc cc), (4, .int .i64 (i : Int)), (5, .int .i64 (k : Int))]) (fun k w' => Keep w w' ∧ k ≤ 3 ∧ OwnF intR w' w.heap.size 3 (.slice Ac nc cc) (partM (crn M i) (gi M (i : Int)).vals k) []) (fun k => 3 - k) 0 ⟨rfl, rfl, rfl, rfl, trivial⟩ ⟨hka, Nat.zero_le _, by rw [partM_0]; exact hoa⟩ ?_
    clear hka hoa
    rintro k wb ⟨hkb, hk, hob⟩
    have hMb := hM.keep hkb
    have hpl := partM_len (c := crn M i) (v := (gi M (i : Int)).vals) (by omega) k
    have hzb := hkb.size_le
    repeat refine zz ?_
    refine W_cond rfl (fun hc2 => ?_) (fun hc2 => ?_)
    · simp at hc2
      have hk3 : k < 3 := by omega
      obtain ⟨hA, u1, f1, hcell1, hu1, hsub1⟩ := item_get hMb (i := (i : Int)) (by omega) (by omega)
      obtain ⟨A1, n1, c1, rfl, hn1⟩ := hu1.split
      obtain ⟨hA1, hc11⟩ := hu1.getI (i := (k : Int)) (by omega) (by omega)
      obtain ⟨fo, hso, _⟩ := hob.sl (by decide)
      obtain ⟨hAc, hcc⟩ := hso.getI (i := (k : Int)) (by omega) (by omega)
      rw [partM_at (by omega) (by omega)] at hcc
      repeat refine zz ?_
      have hS : Keep wb (World.drew wb) := Keep.drew wb
      refine W_late (Keep wb) [16] (by kernel_rfl) (Keep.drew wb) ?_
      first|refine e_o 0 ?_|refine e_a 0 ?_|refine e_s 0 ?_|refine e_n 0 ?_|refine e_i 0 ?_|refine e_f 0 ?_|refine e_b 0 ?_|refine e_d 0 ?_|refine e_l1 0 ?_|refine e_l2 0 ?_|refine e_l3 0 ?_|refine e_l4 0 ?_|refine e_l5 0 ?_|refine e_l6 0 ?_|refine e_l7 0 ?_|refine e_l8 0 ?_|refine e_l9 0 ?_|refine e_g 0 ?_|refine e_q 0 ?_|refine e_e 0 ?_|refine e_j 0 ?_
      first|refine e_o 1 ?_|refine e_a 1 ?_|refine e_s 1 ?_|refine e_n 1 ?_|refine e_i 1 ?_|refine e_f 1 ?_|refine e_b 1 ?_|refine e_d 1 ?_|refine e_l1 1 ?_|refine e_l2 1 ?_|refine e_l3 1 ?_|refine e_l4 1 ?_|refine e_l5 1 ?_|refine e_l6 1 ?_|refine e_l7 1 ?_|refine e_l8 1 ?_|refine e_l9 1 ?_|refine e_g 1 ?_|refine e_q 1 ?_|refine e_e 1 ?_|refine e_j 1 ?_
      first|refine e_o 2 ?_|refine e_a 2 ?_|refine e_s 2 ?_|refine e_n 2 ?_|refine e_i 2 ?_|refine e_f 2 ?_|refine e_b 2 ?_|refine e_d 2 ?_|refine e_l1 2 ?_|refine e_l2 2 ?_|refine e_l3 2 ?_|refine e_l4 2 ?_|refine e_l5 2 ?_|refine e_l6 2 ?_|refine e_l7 2 ?_|refine e_l8 2 ?_|refine e_l9 2 ?_|refine e_g 2 ?_|refine e_q 2 ?_|refine e_e 2 ?_|refine e_j 2 ?_
      first|refine e_o 3 ?_|refine e_a 3 ?_|refine e_s 3 ?_|refine e_n 3 ?_|refine e_i 3 ?_|refine e_f 3 ?_|refine e_b 3 ?_|refine e_d 3 ?_|refine e_l1 3 ?_|refine e_l2 3 ?_|refine e_l3 3 ?_|refine e_l4 3 ?_|refine e_l5 3 ?_|refine e_l6 3 ?_|refine e_l7 3 ?_|refine e_l8 3 ?_|refine e_l9 3 ?_|refine e_g 3 ?_|refine e_q 3 ?_|refine e_e 3 ?_|refine e_j 3 ?_
      first|refine e_o 4 ?_|refine e_a 4 ?_|refine e_s 4 ?_|refine e_n 4 ?_|refine e_i 4 ?_|refine e_f 4 ?_|refine e_b 4 ?_|refine e_d 4 ?_|refine e_l1 4 ?_|refine e_l2 4 ?_|refine e_l3 4 ?_|refine e_l4 4 ?_|refine e_l5 4 ?_|refine e_l6 4 ?_|refine e_l7 4 ?_|refine e_l8 4 ?_|refine e_l9 4 ?_|refine e_g 4 ?_|refine e_q 4 ?_|refine e_e 4 ?_|refine e_j 4 ?_
      first|refine e_o 5 ?_|refine e_a 5 ?_|refine e_s 5 ?_|refine e_n 5 ?_|refine e_i 5 ?_|refine e_f 5 ?_|refine e_b 5 ?_|refine e_d 5 ?_|refine e_l1 5 ?_|refine e_l2 5 ?_|refine e_l3 5 ?_|refine e_l4 5 ?_|refine e_l5 5 ?_|refine e_l6 5 ?_|refine e_l7 5 ?_|refine e_l8 5 ?_|refine e_l9 5 ?_|refine e_g 5 ?_|refine e_q 5 ?_|refine e_e 5 ?_|refine e_j 5 ?_
      first|refine e_o 6 ?_|refine e_a 6 ?_|refine e_s 6 ?_|refine e_n 6 ?_|refine e_i 6 ?_|refine e_f 6 ?_|refine e_b 6 ?_|refine e_d 6 ?_|refine e_l1 6 ?_|refine e_l2 6 ?_|refine e_l3 6 ?_|refine e_l4 6 ?_|refine e_l5 6 ?_|refine e_l6 6 ?_|refine e_l7 6 ?_|refine e_l8 6 ?_|refine e_l9 6 ?_|refine e_g 6 ?_|refine e_q 6 ?_|refine e_e 6 ?_|refine e_j 6 ?_
      first|refine e_o 7 ?_|refine e_a 7 ?_|refine e_s 7 ?_|refine e_n 7 ?_|refine e_i 7 ?_|refine e_f 7 ?_|refine e_b 7 ?_|refine e_d 7 ?_|refine e_l1 7 ?_|refine e_l2 7 ?_|refine e_l3 7 ?_|refine e_l4 7 ?_|refine e_l5 7 ?_|refine e_l6 7 ?_|refine e_l7 7 ?_|refine e_l8 7 ?_|refine e_l9 7 ?_|refine e_g 7 ?_|refine e_q 7 ?_|refine e_e 7 ?_|refine e_j 7 ?_
      first|refine e_o 8 ?_|refine e_a 8 ?_|refine e_s 8 ?_|refine e_n 8 ?_|refine e_i 8 ?_|refine e_f 8 ?_|refine e_b 8 ?_|refine e_d 8 ?_|refine e_l1 8 ?_|refine e_l2 8 ?_|refine e_l3 8 ?_|refine e_l4 8 ?_|refine e_l5 8 ?_|refine e_l6 8 ?_|refine e_l7 8 ?_|refine e_l8 8 ?_|refine e_l9 8 ?_|refine e_g 8 ?_|refine e_q 8 ?_|refine e_e 8 ?_|refine e_j 8 ?_
      first|refine e_o 9 ?_|refine e_a 9 ?_|refine e_s 9 ?_|refine e_n 9 ?_|refine e_i 9 ?_|refine e_f 9 ?_|refine e_b 9 ?_|refine e_d 9 ?_|refine e_l1 9 ?_|refine e_l2 9 ?_|refine e_l3 9 ?_|refine e_l4 9 ?_|refine e_l5 9 ?_|refine e_l6 9 ?_|refine e_l7 9 ?_|refine e_l8 9 ?_|refine e_l9 9 ?_|refine e_g 9 ?_|refine e_q 9 ?_|refine e_e 9 ?_|refine e_j 9 ?_
      first|refine e_o 10 ?_|refine e_a 10 ?_|refine e_s 10 ?_|refine e_n 10 ?_|refine e_i 10 ?_|refine e_f 10 ?_|refine e_b 10 ?_|refine e_d 10 ?_|refine e_l1 10 ?_|refine e_l2 10 ?_|refine e_l3 10 ?_|refine e_l4 10 ?_|refine e_l5 10 ?_|refine e_l6 10 ?_|refine e_l7 10 ?_|refine e_l8 10 ?_|refine e_l9 10 ?_|refine e_g 10 ?_|refine e_q 10 ?_|refine e_e 10 ?_|refine e_j 10 ?_
      first|refine e_o 11 ?_|refine e_a 11 ?_|refine e_s 11 ?_|refine e_n 11 ?_|refine e_i 11 ?_|refine e_f 11 ?_|refine e_b 11 ?_|refine e_d 11 ?_|refine e_l1 11 ?_|refine e_l2 11 ?_|refine e_l3 11 ?_|refine e_l4 11 ?_|refine e_l5 11 ?_|refine e_l6 11 ?_|refine e_l7 11 ?_|refine e_l8 11 ?_|refine e_l9 11 ?_|refine e_g 11 ?_|refine e_q 11 ?_|refine e_e 11 ?_|refine e_j 11 ?_
      first|refine e_o 12 ?_|refine e_a 12 ?_|refine e_s 12 ?_|refine e_n 12 ?_|refine e_i 12 ?_|refine e_f 12 ?_|refine e_b 12 ?_|refine e_d 12 ?_|refine e_l1 12 ?_|refine e_l2 12 ?_|refine e_l3 12 ?_|refine e_l4 12 ?_|refine e_l5 12 ?_|refine e_l6 12 ?_|refine e_l7 12 ?_|refine e_l8 12 ?_|refine e_l9 12 ?_|refine e_g 12 ?_|refine e_q 12 ?_|refine e_e 12 ?_|refine e_j 12 ?_
      first|refine e_o 13 ?_|refine e_a 13 ?_|refine e_s 13 ?_|refine e_n 13 ?_|refine e_i 13 ?_|refine e_f 13 ?_|refine e_b 13 ?_|refine e_d 13 ?_|refine e_l1 13 ?_|refine e_l2 13 ?_|refine e_l3 13 ?_|refine e_l4 13 ?_|refine e_l5 13 ?_|refine e_l6 13 ?_|refine e_l7 13 ?_|refine e_l8 13 ?_|refine e_l9 13 ?_|refine e_g 13 ?_|refine e_q 13 ?_|refine e_e 13 ?_|refine e_j 13 ?_
      refine WE_takeP 14 rfl (by kernel_rfl) (by kernel_rfl) (by kernel_rfl) (by kernel_rfl) (by repeat (first | exact np_ret | refine np_then ?_ | refine np_in ?_)) rfl rfl (fun w' => o_min rfl rfl) ?_
      first|refine e_o 15 ?_|refine e_a 15 ?_|refine e_s 15 ?_|refine e_n 15 ?_|refine e_i 15 ?_|refine e_f 15 ?_|refine e_b 15 ?_|refine e_d 15 ?_|refine e_l1 15 ?_|refine e_l2 15 ?_|refine e_l3 15 ?_|refine e_l4 15 ?_|refine e_l5 15 ?_|refine e_l6 15 ?_|refine e_l7 15 ?_|refine e_l8 15 ?_|refine e_l9 15 ?_|refine e_g 15 ?_|refine e_q 15 ?_|refine e_e 15 ?_|refine e_j 15 ?_
      refine WE_last 16 (by kernel_rfl) rfl (by kernel_rfl) ?_
      replace hkb := hkb.keep hS
      replace hob := hob.keep hS
      obtain ⟨bo, cap, cells, hv, hbo, hblk, hl1, hl2, hget, hput⟩ := hob.stI (by intro e; rw [e] at hpl; simp at hpl; omega)
      simp only [Value.slice.injEq] at hv
      obtain ⟨rfl, _, rfl⟩ := hv
      refine o_store1 (b := bo) (off := k) rfl rfl (by rw [ea_blk, Nat.zero_add, Nat.mul_one]) rfl rfl hblk (by omega) ?_
      intro we hue
      have hoe := hput we k _ (by omega) hue
      rw [partM_set (by omega) (by omega)] at hoe
      refine WL_end ?_
      refine WE_done (by kernel_rfl) ?_
      repeat refine zz ?_
      exact ⟨k + 1, ⟨rfl, rfl, rfl, rfl, trivial⟩, ⟨hkb.upd hue hbo, by omega, hoe⟩, by omega⟩
    · simp at hc2
      have hk3 : k = 3 := by omega
      rw [hk3, partM_end (by omega) (by omega)] at hob
      repeat refine zz ?_
      exact ⟨i + 1, ⟨rfl, rfl, rfl, trivial⟩, ⟨hkb, ⟨by omega, by omega⟩, by rw [crn_succ]; exact hob⟩, by omega⟩
  · simp at hc
    have hin : i = M.length := by omega
    rw [hin] at hoa
    obtain ⟨fo, hso, hfo⟩ := hoa.sl (by decide)
    repeat refine zz ?_
    exact ret1 rfl rfl ⟨hka, fo, hso, hfo⟩
end Go.E
set_option linter.unusedVariables false
set_option linter.unusedSimpArgs false
namespace Go.E
open Go Go.RowKit Go.Proofs
theorem flt_step {α : Type} [Inhabited α] {p : α → Bool} {xs : List α} {k : Nat} (h : k < xs.length) : (xs.take (k + 1)).filter p = (xs.take k).filter p ++ (if p (gi xs (k : Int)) then [gi xs (k : Int)] else []) := by
  rw [take_gi h, List.filter_append]
  congr 1
  by_cases hs : p (gi xs (k : Int)) = true
  · rw [if_pos hs]; simp [hs]
  · rw [if_neg hs]; simp [hs]
theorem rem_nat (a b : Nat) : Int.tmod (a : Int) (b : Int) = ((a % b : Nat) : Int) := by
  rw [Int.tmod_eq_emod_of_nonneg (by omega)]; rfl
theorem quo_nat (a b : Nat) : Int.tdiv (a : Int) (b : Int) = ((a / b : Nat) : Int) := by
  rw [Int.tdiv_eq_ediv_of_nonneg (by omega)]; rfl
theorem half16 (k : Nat) (h : k ≤ 1048576) : IntKind.i64.wrap ((k : Int).tdiv 2) = ((k / 2 : Nat) : Int) := by
  rw [show (2 : Int) = ((2 : Nat) : Int) from rfl, quo_nat, wrap_i64 (by omega) (by omega)]
theorem items_hit {M : List Itm} (h : ∀ x, x ∈ M → isItem x = true) : ∀ i : Nat, i < M.length → isItem (gi M (i : Int)) = true := fun i hi => h _ (gi_mem hi)
theorem items_3 {M : List Itm} (h : ∀ x, x ∈ M → isItem x = true) : ∀ i : Nat, i < M.length → (gi M (i : Int)).vals.length = 3 := fun i hi => isItem_len (h _ (gi_mem hi))
theorem addB_item {f : List Int} {F : List Itm} {x : Itm} (h : ∀ y, y ∈ F → isItem y = true) (hx : isItem x = true) : ∀ y, y ∈ addB f F x → isItem y = true := fun y hy => by
  unfold addB at hy
  split at hy
  · exact h y hy
  · rcases List.mem_append.1 hy with hy | hy
    · exact h y (List.mem_filter.1 hy).1
    · rw [List.mem_singleton] at hy; rw [hy]; exact hx
theorem leafN_item {f : List Int} {M : List Itm} {S : List Itm × Nat} (hM : ∀ x, x ∈ M → isItem x = true) (hS : ∀ y, y ∈ S.1 → isItem y = true) : ∀ k, k ≤ M.length → ∀ y, y ∈ (leafN f M S k).1 → isItem y = true
  | 0, _ => hS
  | k + 1, hk => addB_item (leafN_item hM hS k (by omega)) (hM _ (gi_mem (by omega)))
theorem boxP_item {f : List Int} : ∀ (N : Nat) (M : List Itm) (d : Nat) (S : List Itm × Nat), (∀ x, x ∈ M → isItem x = true) → (∀ y, y ∈ S.1 → isItem y = true) → ∀ y, y ∈ (boxP f N M d S).1 → isItem y = true
  | 0, M, d, S, _, hS => hS
  | N + 1, M, d, S, hM, hS => by
    rw [boxP]
    split
    · exact hS
    split
    · exact hS
    split
    · refine boxP_item N _ _ _ (fun x hx => hM x (byF_sub.1 (List.mem_of_mem_drop hx))) (boxP_item N _ _ _ (fun x hx => hM x (byF_sub.1 (List.mem_of_mem_take hx))) hS)
    · exact leafN_item hM hS _ (Nat.le_refl _)
def ApartV (v u : Value) : Prop := ∀ c, v.ownBlock = some c → u.ownBlock ≠ some c
attribute [local irreducible] W WL WD WE thenE inE retQ PureOp Keep Cell Cells Blk Sl Rows Own Src Fresh
attribute [local irreducible] crn lwr byF ordL boxP cutN

set_option maxHeartbeats 8000000 in
theorem l9Box_ok {f : List Int} (hff : isFieldList f = true) : ∀ (N : Nat) {w : World} {v u vF : Value} {M F : List Itm} {fm gp ff : List Nat} {d n : Nat} (hM : Sl itemR w v M fm) (hf : Sl intR w u f gp) (hF : Sl itemR w vF F ff)
    (hMN : M.length ≤ N) (h16 : M.length ≤ 16) (hFl : F.length + M.length ≤ 64) (hn : n + M.length ≤ 1000) (hd : d + N ≤ 100) (hiM : ∀ x, x ∈ M → isItem x = true) (hiF : ∀ x, x ∈ F → isItem x = true),
    Run Tryz.prog 39 [v, u, .int .i64 (d : Int), vF, .int .i64 (n : Int)] w (fun r w' => Keep w w' ∧ ∃ x h, r = .tuple #[x, .int .i64 ((boxP f N M d (F, n)).2 : Int)] ∧ Sl itemR w' x (boxP f N M d (F, n)).1 h) := by
  intro N
  induction N with
  | zero =>
    intro w v u vF M F fm gp ff d n hM hf hF hMN h16 hFl hn hd hiM hiF
    obtain ⟨A, nM, cM, rfl, hlM⟩ := hM.split
    have hb : boxP f 0 M d (F, n) = (F, n) := by unfold boxP; rfl
    rw [hb]
    have h0 : nM = 0 := by omega
    subst h0
    refine Run_intro Tryz.func39 (by unfold CallOk; kernel_rfl) rfl Tryz.ntmps39 (Nat.le_of_ble_eq_true rfl) ?_
    simp only [penv, Nat.reduceAdd, Nat.zero_add]
    repeat refine zz ?_
    exact ret2 rfl rfl rfl ⟨Keep.refl _, _, ff, rfl, hF⟩
  | succ N ih =>
    intro w v u vF M F fm gp ff d n hM hf hF hMN h16 hFl hn hd hiM hiF
    have hdM := hM.dom
    have hdF := hF.dom
    have oF := hF.oneCell
    have hnf3 := fieldList_len hff
    have hnf0 : 0 < f.length := by simp only [isFieldList, Bool.and_eq_true, decide_eq_true_eq] at hff; exact hff.2
    obtain ⟨A, nM, cM, rfl, hlM⟩ := hM.split
    obtain ⟨B, nf, cf_, rfl, hlf⟩ := hf.split
    obtain ⟨C, nF, cF, rfl, hlF⟩ := hF.split
    refine Run_intro Tryz.func39 (by unfold CallOk; kernel_rfl) rfl Tryz.ntmps39 (Nat.le_of_ble_eq_true rfl) ?_
    simp only [penv, Nat.reduceAdd, Nat.zero_add]
    repeat refine zz ?_
    refine W_cond rfl (fun hc0 => ?_) (fun hc0 => ?_)
    · simp at hc0
      rw [box_nil (by omega)]
      repeat refine zz ?_
      exact ret2 rfl rfl rfl ⟨Keep.refl _, _, ff, rfl, hF⟩
    simp at hc0
    have hM0 : M.length ≠ 0 := by omega
    repeat refine zz ?_
    refine o_call rfl rfl rfl (l9Corner_ok hM (by omega) h16 (items_3 hiM)) ?_
    rintro vc w1 ⟨hk, fc, hC, _⟩
    have hlc := crn_len (items_3 hiM) (by omega) M.length (Nat.le_refl _)
    have hcut : cut f F (crn M M.length) = cutN f F (crn M M.length) F.length := rfl
    repeat refine zz ?_
    refine W_loop (S := Nat) (fun i => [(0, .slice A nM cM), (1, .slice B nf cf_), (2, .int .i64 (d : Int)), (3, .slice C nF cF), (4, .int .i64 (n : Int)), (12, vc), (13, .int .i64 (i : Int))]) (fun i w' => Keep w w' ∧ i ≤ nF ∧ Sl intR w' vc (crn M M.length) fc ∧ cutN f F (crn M M.length) i = false) (fun i => nF - i) 0 ⟨rfl, rfl, rfl, rfl, rfl, rfl, rfl, trivial⟩ ⟨hk, Nat.zero_le _, hC, by unfold cutN; rfl⟩ ?_
    clear hk hC
    rintro i wa ⟨hka, hi, hC, hcN⟩
    have hFa := hF.keep hka
    have hfa := hf.keep hka
    repeat refine zz ?_
    refine W_cond rfl (fun hc1 => ?_) (fun hc1 => ?_)
    · simp at hc1
      have hin : i < nF := by omega
      obtain ⟨hA, u1, f1, hcell1, hu1, _⟩ := item_get hFa (i := (i : Int)) (by omega) (by omega)
      have hs := cutN_succ f F (crn M M.length) i
      rw [hcN, Bool.false_or] at hs
      repeat refine zz ?_
      refine o_call rfl rfl rfl (l9Below_ok hu1 hC hfa (items_3 hiF i (by omega)) hlc hff) ?_
      rintro _ wb ⟨rfl, kb⟩
      replace hka := hka.keep kb
      replace hC := hC.keep kb
      repeat refine zz ?_
      refine W_cond rfl (fun hc2 => ?_) (fun hc2 => ?_)
      · have hct : cut f F (crn M M.length) = true := by
          rw [cut_iff]; exact ⟨_, gi_mem (by omega), hc2⟩
        rw [box_cut hM0 hct]
        repeat refine zz ?_
        exact ret2 rfl rfl rfl ⟨hka, _, ff, rfl, hF.keep hka⟩
      · repeat refine zz ?_
        exact ⟨i + 1, ⟨rfl, rfl, rfl, rfl, rfl, rfl, rfl, trivial⟩, ⟨hka, by omega, hC, by rw [hs]; exact hc2⟩, by omega⟩
    · simp at hc1
      have hiF' : i = F.length := by omega
      have hct : cut f F (crn M M.length) = false := by rw [hcut, ← hiF']; exact hcN
      clear hcN hC
      repeat refine zz ?_
      refine W_cond rfl (fun hc3 => ?_) (fun hc3 => ?_)
      · simp at hc3
        have h2M : 2 < M.length := by omega
        rw [box_more hct h2M]
        have hkl : d % f.length < f.length := Nat.mod_lt _ hnf0
        generalize hkk : d % f.length = kk at *
        have hfk := field_at hff hkl
        have hMa := hM.keep hka
        have hfa := hf.keep hka
        obtain ⟨hB, hcf⟩ := hfa.getI (i := (kk : Int)) (by omega) (by omega)
        generalize hkf : gi f (kk : Int) = kf at *
        repeat refine zz ?_
        refine WL_pure rfl rfl (o_rem rfl rfl (by omega)) ?_
        rw [rem_nat, hlf, hkk, ← hlf]
        repeat refine zz ?_
        refine o_call rfl rfl rfl (l9Order_ok hMa h16 (items_3 hiM) hfk) ?_
        rintro vo wo ⟨ko, fo, hso, hfo⟩
        have eo : sortP (fun i => fval kf (gi M i)) (iota 0 M.length) = ordL M kf := by unfold ordL; rfl
        rw [eo] at hso
        replace hka := hka.keep ko
        have hP : ∀ i : Nat, i < nM → gi (byF M kf) (i : Int) = gi M (gi (ordL M kf) (i : Int)) := fun i hi => byF_at (by omega)
        have hPl : (byF M kf).length = nM := by rw [byF_len]; omega
        have hOl : (ordL M kf).length = nM := by rw [ordL_len]; omega
        have hOr : ∀ i : Nat, i < nM → 0 ≤ gi (ordL M kf) (i : Int) ∧ gi (ordL M kf) (i : Int) < nM := fun i hi => by have := ord_at (L := M) (k := kf) (n := i) (by omega); omega
        have hPs : ∀ x, x ∈ byF M kf → isItem x = true := fun x hx => hiM x (byF_sub.1 hx)
        generalize byF M kf = P at *
        generalize ordL M kf = O at *
        have hdO := hso.dom
        have zo := hka.size_le
        obtain ⟨Ao, no, co, rfl, hno⟩ := hso.split
        have hnoM : no = nM := by omega
        subst hnoM
        have hh : no / 2 ≤ no := by omega
        rw [← hlM]
        generalize hhd : no / 2 = h at *
        repeat refine zz ?_
        refine o_buildSlice rfl rfl rfl rfl rfl (by intro p hp; cases hp) (by omega) ?_
        intro bO wO halO
        have hkO := halO.kp
        have zO := halO.b_eq
        have sO := halO.size
        have ho1 : Own itemR wO wo.heap.size 45 (.slice (some ⟨bO, 0, none⟩) 0 0) [] [] := Own.made halO.blk (by simp) (Nat.zero_le _) (by omega)
        have hkx : Keep wo wO := hkO
        replace hso := hso.keep hkO
        clear halO hkO
        repeat refine zz ?_
        refine o_buildSlice rfl rfl rfl rfl rfl (by intro p hp; cases hp) (by omega) ?_
        intro bQ wQ halQ
        have hkQ := halQ.kp
        have zQ := halQ.b_eq
        have sQ := halQ.size
        have ho2 : Own itemR wQ wo.heap.size 45 (.slice (some ⟨bQ, 0, none⟩) 0 0) [] [] := Own.made halQ.blk (by simp) (Nat.zero_le _) (by omega)
        replace hkx := hkx.keep hkQ
        replace hso := hso.keep hkQ
        replace ho1 := ho1.keep hkQ
        clear halQ hkQ
        repeat refine zz ?_
        refine W_loop (S := Nat × Value × Value) (fun s => [(0, .slice A no cM), (1, .slice B nf cf_), (2, .int .i64 (d : Int)), (3, .slice C nF cF), (4, .int .i64 (n : Int)), (14, .slice Ao no co), (15, s.2.1), (16, s.2.2), (17, .int .i64 (s.1 : Int))])
          (fun s w' => Keep wo w' ∧ s.1 ≤ no ∧ Sl intR w' (.slice Ao no co) O fo ∧ (∃ fl, Own itemR w' wo.heap.size 45 s.2.1 (P.take (min s.1 h)) fl ∧ ∀ c, c ∈ fl → c < w.heap.size) ∧ (∃ fl, Own itemR w' wo.heap.size 45 s.2.2 ((P.take s.1).drop h) fl ∧ ∀ c, c ∈ fl → c < w.heap.size) ∧ ApartV s.2.1 s.2.2) (fun s => no - s.1) (0, _, _)
          ⟨rfl, rfl, rfl, rfl, rfl, rfl, rfl, rfl, rfl, trivial⟩ ⟨hkx, Nat.zero_le _, hso, ⟨[], by simpa using ho1, fun c hc => by cases hc⟩, ⟨[], by simpa using ho2, fun c hc => by cases hc⟩, fun c h1 h2 => by simp [Value.ownBlock] at h1 h2; omega⟩ ?_
        clear hkx hso ho1 ho2 hMa hfa hcf
        rintro ⟨i, va, vb⟩ wb ⟨hkb, hi, hsb, ⟨fl, hoa, hla⟩, ⟨fh, hob, hlb⟩, hap⟩
        dsimp only at hi hoa hob hap ⊢
        have hMb := (hM.keep hka).keep hkb
        have zb := hkb.size_le
        have ra := fun c hc => hoa.lt (b := c) hc
        have rb := fun c hc => hob.lt (b := c) hc
        repeat refine zz ?_
        refine W_cond rfl (fun hc4 => ?_) (fun hc4 => ?_)
        · simp at hc4
          have hin : i < no := by omega
          obtain ⟨hAo, hco⟩ := hsb.getI (i := (i : Int)) (by omega) (by omega)
          have hor := hOr i hin
          obtain ⟨hA, u1, f1, hcell1, hu1, hsub1⟩ := item_get hMb (i := gi O (i : Int)) (by omega) (by omega)
          have o1 := hu1.oneCell
          have hd1 := hu1.dom
          have l1 : (P.take (min i h)).length ≤ 16 := by rw [List.length_take]; omega
          have l2 : ((P.take i).drop h).length ≤ 16 := by rw [List.length_drop, List.length_take]; omega
          have htk := take_gi (xs := P) (k := i) (by omega)
          repeat refine zz ?_
          refine WL_pure rfl rfl (o_quo rfl rfl (by decide)) ?_
          rw [half16 no (by omega), hhd]
          repeat refine zz ?_
          refine W_cond rfl (fun hc5 => ?_) (fun hc5 => ?_)
          · simp at hc5
            have hih : i < h := by omega
            repeat refine zz ?_
            refine o_buildSlice rfl rfl rfl rfl rfl (by simp [Value.cells]) (by omega) ?_
            intro b8 w8 hal8
            have hb8 : Blk w8 b8 45 [.int .i64 (gi M (gi O (i : Int))).id, u1] := by simpa [Value.cells] using hal8.blk
            have z8 := hal8.size
            replace hkb := hkb.keep hal8.kp
            replace hsb := hsb.keep hal8.kp
            replace hoa := hoa.keep hal8.kp
            replace hob := hob.keep hal8.kp
            replace hu1 := hu1.keep hal8.kp
            repeat refine zz ?_
            refine o_append (R := itemR) (gi := f1) rfl rfl rfl rfl rfl (by decide) hoa (Blk.src (xs := [gi M (gi O (i : Int))]) hb8 (Rows.single (R := itemR) ⟨_, rfl, hu1⟩)) rfl (fun c hc => ⟨fun hm => by have := hla c hm; have := (ra c hc).1; omega, fun hm => by have := hdM c (hsub1 c hm); have := (ra c hc).1; omega⟩) (by simp only [List.length_cons, List.length_nil]; omega) (by simp only [List.length_cons, List.length_nil]; omega) (by omega) ?_
            intro v9 w9 ho9 hg9 hv9
            repeat refine zz ?_
            have e1 : (P.take (i + 1)).drop h = (P.take i).drop h := by rw [List.drop_of_length_le (by rw [List.length_take]; omega), List.drop_of_length_le (by rw [List.length_take]; omega)]
            exact ⟨(i + 1, v9, vb), ⟨rfl, rfl, rfl, rfl, rfl, rfl, rfl, rfl, rfl, trivial⟩, ⟨hkb.grown hg9 (fun c hc => (ra c hc).1), by dsimp only; omega, hsb.grownN hg9 (fun c hc hm => by have := (ra c hc).1; have := hdO c hm; omega), ⟨fl ++ f1, by
              dsimp only
              rw [show min (i + 1) h = i + 1 by omega, htk, hP i hin]
              rw [show min i h = i by omega] at ho9
              exact ho9, fun c hm => by
              rcases List.mem_append.1 hm with h | h
              · exact hla c h
              · exact hdM c (hsub1 c h)⟩, ⟨fh, by
              dsimp only
              rw [e1]
              exact hob.grown hg9 (fun c hc => ⟨hap c hc, fun hm => by have := (ra c hc).1; have := hlb c hm; omega⟩), hlb⟩, fun c h1 h2 => by
              rcases hv9 with h | h
              · rw [h] at h1; exact hap c h1 h2
              · rw [h] at h1; simp only [Option.some.injEq] at h1; have := rb c h2; omega⟩, by dsimp only; omega⟩
          · simp at hc5
            have hih : h ≤ i := by omega
            repeat refine zz ?_
            refine o_buildSlice rfl rfl rfl rfl rfl (by simp [Value.cells]) (by omega) ?_
            intro b8 w8 hal8
            have hb8 : Blk w8 b8 45 [.int .i64 (gi M (gi O (i : Int))).id, u1] := by simpa [Value.cells] using hal8.blk
            have z8 := hal8.size
            replace hkb := hkb.keep hal8.kp
            replace hsb := hsb.keep hal8.kp
            replace hoa := hoa.keep hal8.kp
            replace hob := hob.keep hal8.kp
            replace hu1 := hu1.keep hal8.kp
            repeat refine zz ?_
            refine o_append (R := itemR) (gi := f1) rfl rfl rfl rfl rfl (by decide) hob (Blk.src (xs := [gi M (gi O (i : Int))]) hb8 (Rows.single (R := itemR) ⟨_, rfl, hu1⟩)) rfl (fun c hc => ⟨fun hm => by have := hlb c hm; have := (rb c hc).1; omega, fun hm => by have := hdM c (hsub1 c hm); have := (rb c hc).1; omega⟩) (by simp only [List.length_cons, List.length_nil]; omega) (by simp only [List.length_cons, List.length_nil]; omega) (by omega) ?_
            intro v9 w9 ho9 hg9 hv9
            repeat refine zz ?_
            have e1 : (P.take (i + 1)).drop h = (P.take i).drop h ++ [gi M (gi O (i : Int))] := by rw [htk, List.drop_append_of_le_length (by rw [List.length_take]; omega), hP i hin]
            exact ⟨(i + 1, va, v9), ⟨rfl, rfl, rfl, rfl, rfl, rfl, rfl, rfl, rfl, trivial⟩, ⟨hkb.grown hg9 (fun c hc => (rb c hc).1), by dsimp only; omega, hsb.grownN hg9 (fun c hc hm => by have := (rb c hc).1; have := hdO c hm; omega), ⟨fl, by
              dsimp only
              rw [show min (i + 1) h = min i h by omega]
              exact hoa.grown hg9 (fun c hc => ⟨fun e => hap c e hc, fun hm => by have := (rb c hc).1; have := hla c hm; omega⟩), hla⟩, ⟨fh ++ f1, by
              dsimp only
              rw [e1]
              exact ho9, fun c hm => by
              rcases List.mem_append.1 hm with h | h
              · exact hlb c h
              · exact hdM c (hsub1 c h)⟩, fun c h1 h2 => by
              rcases hv9 with h | h
              · rw [h] at h2; exact hap c h1 h2
              · rw [h] at h2; simp only [Option.some.injEq] at h2; have := ra c h1; omega⟩, by dsimp only; omega⟩
        · simp at hc4
          have hin : i = no := by omega
          subst hin
          rw [show min i h = h by omega] at hoa
          rw [show P.take i = P from List.take_of_length_le (by omega)] at hob
          obtain ⟨f3, hs3, _⟩ := hoa.sl (by decide)
          obtain ⟨f4, hs4, _⟩ := hob.sl (by decide)
          have hkw := hka.keep hkb
          have l3 : (P.take h).length = h := by rw [List.length_take]; omega
          have l4 : (P.drop h).length = i - h := by rw [List.length_drop]; omega
          have i3 : ∀ x, x ∈ P.take h → isItem x = true := fun x hx => hPs x (List.mem_of_mem_take hx)
          have i4 : ∀ x, x ∈ P.drop h → isItem x = true := fun x hx => hPs x (List.mem_of_mem_drop hx)
          clear hoa hob hMb hsb
          repeat refine zz ?_
          rw [show (d : Int) + 1 = ((d + 1 : Nat) : Int) by omega]
          refine o_call rfl rfl rfl (ih hs3 (hf.keep hkw) (hF.keep hkw) (by omega) (by omega) (by omega) (by omega) (by omega) i3 hiF) ?_
          rintro _ wc ⟨kc, x1, h1, rfl, hx1⟩
          have hbd := boxP_bd f N (P.take h) (d + 1) (F, n)
          have hit1 := boxP_item (f := f) N (P.take h) (d + 1) (F, n) i3 hiF
          generalize boxP f N (P.take h) (d + 1) (F, n) = S1 at *
          replace hkw := hkw.keep kc
          replace hs4 := hs4.keep kc
          have o1 := hx1.oneCell
          dsimp only at hbd
          repeat refine zz ?_
          rw [show (d : Int) + 1 = ((d + 1 : Nat) : Int) by omega]
          refine o_call rfl rfl rfl (ih hs4 (hf.keep hkw) hx1 (by omega) (by omega) (by omega) (by omega) (by omega) i4 hit1) ?_
          rintro _ wd ⟨kd, x2, h2', rfl, hx2⟩
          repeat refine zz ?_
          exact ret2 rfl rfl rfl ⟨hkw.keep kd, _, h2', rfl, hx2⟩
      · simp at hc3
        rw [box_leaf hM0 hct (by omega)]
        have hM2 : M.length ≤ 2 := by omega
        repeat refine zz ?_
        refine W_loop (S := Nat × Value) (fun s => [(0, .slice A nM cM), (1, .slice B nf cf_), (3, s.2), (4, .int .i64 ((n + s.1 : Nat) : Int)), (22, .int .i64 (s.1 : Int))]) (fun s w' => Keep w w' ∧ s.1 ≤ nM ∧ ∃ fF, Sl itemR w' s.2 (leafN f M (F, n) s.1).1 fF) (fun s => nM - s.1) (0, _) ⟨rfl, rfl, rfl, rfl, rfl, trivial⟩ ⟨hka, Nat.zero_le _, ff, hFa⟩ ?_
        clear hka hFa hfa
        rintro ⟨i, vG⟩ wb ⟨hkb, hi, fG, hG⟩
        dsimp only at hi hG ⊢
        have hMb := hM.keep hkb
        have hfb := hf.keep hkb
        repeat refine zz ?_
        refine W_cond rfl (fun hc4 => ?_) (fun hc4 => ?_)
        · simp at hc4
          have hin : i < nM := by omega
          have hbd := leafN_bd f M (F, n) i
          have hiG := leafN_item (f := f) (S := (F, n)) hiM hiF i (by omega)
          have hsucc : (leafN f M (F, n) (i + 1)).1 = addB f (leafN f M (F, n) i).1 (gi M (i : Int)) := rfl
          generalize (leafN f M (F, n) i).1 = G at *
          dsimp only at hbd
          have hix := hiM _ (gi_mem (xs := M) (i := i) (by omega))
          generalize hx : gi M (i : Int) = x at *
          have hdG := hG.dom
          have oG := hG.oneCell
          obtain ⟨Ag, ng, cg, rfl, hng⟩ := hG.split
          have zb := hkb.size_le
          repeat refine zz ?_
          refine o_buildSlice rfl rfl rfl rfl rfl (by intro p hp; cases hp) (by omega) ?_
          intro bO wO halO
          have hkO := halO.kp
          have zO := halO.b_eq
          have sO := halO.size
          have ho1 : OwnX itemR wO wb.heap.size 45 (.slice (some ⟨bO, 0, none⟩) 0 0) [] := OwnX.made halO.blk (by omega)
          have hkO' := hkO
          clear halO
          repeat refine zz ?_
          refine W_loop (S := Nat × Value) (fun s => [(0, .slice A nM cM), (1, .slice B nf cf_), (3, .slice Ag ng cg), (4, .int .i64 ((n + (i + 1) : Nat) : Int)), (22, .int .i64 (i : Int)), (23, s.2), (24, .bool (!cutN f G x.vals s.1)), (25, .int .i64 (s.1 : Int))]) (fun s w' => Keep wb w' ∧ s.1 ≤ ng ∧ OwnX itemR w' wb.heap.size 45 s.2 ((G.take s.1).filter fun y => !lwr f x.vals y.vals)) (fun s => ng - s.1) (0, _) ⟨rfl, rfl, rfl, find_int rfl (by omega), rfl, rfl, by unfold cutN; rfl, rfl, trivial⟩ ⟨hkO, Nat.zero_le _, by simpa using ho1⟩ ?_
          clear ho1 hkO hkO'
          rintro ⟨k, va⟩ wc ⟨hkc, hk, hoa⟩
          dsimp only at hk hoa ⊢
          have hMc := hMb.keep hkc
          have hfc := hfb.keep hkc
          have hGc := hG.keep hkc
          have zc := hkc.size_le
          have ra := fun c hc => hoa.lt (b := c) hc
          obtain ⟨hA1, u1, f1, hcell1, hu1, hsub1⟩ := item_get hMc (i := (i : Int)) (by omega) (by omega)
          rw [hx] at hcell1 hu1
          have hl1 := isItem_len hix
          repeat refine zz ?_
          refine W_cond rfl (fun hc5 => ?_) (fun hc5 => ?_)
          · simp at hc5
            have hkn : k < ng := by omega
            obtain ⟨hA2, u2, f2, hcell2, hu2, hsub2⟩ := item_get hGc (i := (k : Int)) (by omega) (by omega)
            have hiy := hiG _ (gi_mem (xs := G) (i := k) (by omega))
            have hl2 := isItem_len hiy
            have hs := cutN_succ f G x.vals k
            have hft := flt_step (p := fun y : Itm => !lwr f x.vals y.vals) (xs := G) (k := k) (by omega)
            have o2 := hu2.oneCell
            have d2 := hu2.dom
            have hll : ((G.take k).filter fun y => !lwr f x.vals y.vals).length ≤ 64 := by
              have h1 := List.length_filter_le (fun y : Itm => !lwr f x.vals y.vals) (G.take k)
              rw [List.length_take] at h1; omega
            repeat refine zz ?_
            refine W_cutR [(0, .slice A nM cM), (1, .slice B nf cf_), (3, .slice Ag ng cg), (4, .int .i64 ((n + (i + 1) : Nat) : Int)), (22, .int .i64 (i : Int)), (23, va), (24, .bool (!cutN f G x.vals (k + 1))), (25, .int .i64 (k : Int))] (fun w' => Keep wc w') ?_ ?_
            · intro we ke
              replace hkc := hkc.keep ke
              replace hoa := hoa.keep ke
              replace ra := fun c hc => hoa.lt (b := c) hc
              replace hMc := hMc.keep ke
              replace hGc := hGc.keep ke
              replace hfc := hfc.keep ke
              obtain ⟨hA1, u1, f1, hcell1, hu1, hsub1⟩ := item_get hMc (i := (i : Int)) (by omega) (by omega)
              rw [hx] at hcell1 hu1
              obtain ⟨hA2, u2, f2, hcell2, hu2, hsub2⟩ := item_get hGc (i := (k : Int)) (by omega) (by omega)
              have o2 := hu2.oneCell
              repeat refine zz ?_
              refine W_quiet (Keep we) (by kernel_rfl) (by kernel_rfl) (Keep.drew _) ?_
              repeat refine qq ?_
              refine WQ_call rfl rfl rfl (fun w' hw' => (l9Below_ok (hu1.keep hw') (hu2.keep hw') (hfc.keep hw') hl1 hl2 hff).kk hw') ?_
              repeat refine qq ?_
              intro wg kg 
              replace hkc := hkc.keep kg
              replace hoa := hoa.keep kg
              replace ra := fun c hc => hoa.lt (b := c) hc
              replace hGc := hGc.keep kg
              have zg := hkc.size_le
              obtain ⟨hA2, u2, f2, hcell2, hu2, hsub2⟩ := item_get hGc (i := (k : Int)) (by omega) (by omega)
              have o2 := hu2.oneCell
              have d2 := hu2.dom
              cases hlw : lwr f x.vals (gi G (k : Int)).vals with
              | false =>
                rw [hlw, if_pos (by rfl)] at hft
                repeat refine zz ?_
                refine o_buildSlice rfl rfl rfl rfl rfl (by simp [Value.cells]) (by omega) ?_
                intro b8 w8 hal8
                have hb8 : Blk w8 b8 45 [.int .i64 (gi G (k : Int)).id, u2] := by simpa [Value.cells] using hal8.blk
                have z8 := hal8.size
                replace hkc := hkc.keep hal8.kp
                replace hoa := hoa.keep hal8.kp
                replace hu2 := hu2.keep hal8.kp
                have d28 := hu2.dom
                repeat refine zz ?_
                refine o_appX (R := itemR) (gi := f2) rfl rfl rfl rfl rfl (by decide) hoa (Blk.src (xs := [gi G (k : Int)]) hb8 (Rows.single (R := itemR) ⟨_, rfl, hu2⟩)) rfl d28 (fun c hc hm => by have := hdG c (hsub2 c hm); have := (ra c hc).1; omega) (by simp only [List.length_cons, List.length_nil]; omega) (by simp only [List.length_cons, List.length_nil]; omega) (by omega) ?_
                intro v9 w9 ho9 hg9 _
                repeat refine zz ?_
                exact ⟨(k + 1, v9), ⟨rfl, rfl, rfl, rfl, rfl, rfl, rfl, rfl, trivial⟩, ⟨hkc.grown hg9 (fun c hc => (ra c hc).1), by dsimp only; omega, by dsimp only; rw [hft]; exact ho9⟩, by dsimp only; omega⟩
              | true =>
                rw [hlw, if_neg (by decide), List.append_nil] at hft
                repeat refine zz ?_
                exact ⟨(k + 1, va), ⟨rfl, rfl, rfl, rfl, rfl, rfl, rfl, rfl, trivial⟩, ⟨hkc, by dsimp only; omega, by dsimp only; rw [hft]; exact hoa⟩, by dsimp only; omega⟩
            · cases hcN : cutN f G x.vals k with
              | true =>
                rw [hcN, Bool.true_or] at hs
                refine W_quiet (Keep wc) (by kernel_rfl) (by kernel_rfl) (Keep.drew _) ?_
                repeat refine qq ?_
                intro we ke 
                repeat refine zz ?_
                exact ⟨⟨rfl, rfl, rfl, rfl, rfl, rfl, by rw [hs]; rfl, rfl, trivial⟩, ke⟩
              | false =>
                rw [hcN, Bool.false_or] at hs
                refine W_quiet (Keep wc) (by kernel_rfl) (by kernel_rfl) (Keep.drew _) ?_
                repeat refine qq ?_
                refine WQ_call rfl rfl rfl (fun w' hw' => (l9Below_ok (hu2.keep hw') (hu1.keep hw') (hfc.keep hw') hl2 hl1 hff).kk hw') ?_
                repeat refine qq ?_
                intro we ke 
                repeat refine zz ?_
                exact ⟨⟨rfl, rfl, rfl, rfl, rfl, rfl, by rw [hs]; rfl, rfl, trivial⟩, ke⟩
          · simp at hc5
            have hkn : k = G.length := by omega
            have hct' : cutN f G x.vals k = cut f G x.vals := by rw [hkn]; rfl
            rw [show G.take k = G from List.take_of_length_le (by omega)] at hoa
            have hkw := hkb.keep hkc
            have hll : (G.filter fun y => !lwr f x.vals y.vals).length ≤ 64 := by
              have h1 := List.length_filter_le (fun y : Itm => !lwr f x.vals y.vals) G
              omega
            rw [hct']
            have o1 := hu1.oneCell
            have d1 := hu1.dom
            cases hct2 : cut f G x.vals with
            | true =>
              have ha : addB f G x = G := by unfold addB; rw [if_pos hct2]
              repeat refine zz ?_
              exact ⟨(i + 1, _), ⟨rfl, rfl, rfl, rfl, rfl, trivial⟩, ⟨hkw, by dsimp only; omega, fG, by dsimp only; rw [hsucc, ha]; exact hGc⟩, by dsimp only; omega⟩
            | false =>
              have ha : addB f G x = G.filter (fun y => !lwr f x.vals y.vals) ++ [x] := by unfold addB; rw [if_neg (by rw [hct2]; decide)]
              repeat refine zz ?_
              refine o_buildSlice rfl rfl rfl rfl rfl (by simp [Value.cells]) (by omega) ?_
              intro b8 w8 hal8
              have hb8 : Blk w8 b8 45 [.int .i64 x.id, u1] := by simpa [Value.cells] using hal8.blk
              have z8 := hal8.size
              replace hkw := hkw.keep hal8.kp
              replace hoa := hoa.keep hal8.kp
              replace hu1 := hu1.keep hal8.kp
              have d18 := hu1.dom
              repeat refine zz ?_
              refine o_appX (R := itemR) (gi := f1) rfl rfl rfl rfl rfl (by decide) hoa (Blk.src (xs := [x]) hb8 (Rows.single (R := itemR) ⟨_, rfl, hu1⟩)) rfl d18 (fun c hc hm => by have := hdM c (hsub1 c hm); have := (ra c hc).1; omega) (by simp only [List.length_cons, List.length_nil]; omega) (by simp only [List.length_cons, List.length_nil]; omega) (by omega) ?_
              intro v9 w9 ho9 hg9 _
              obtain ⟨f9, hs9⟩ := ho9.sl (by decide)
              repeat refine zz ?_
              exact ⟨(i + 1, v9), ⟨rfl, rfl, rfl, rfl, rfl, trivial⟩, ⟨hkw.grown hg9 (fun c hc => by have := (ra c hc).1; omega), by dsimp only; omega, f9, by dsimp only; rw [hsucc, ha]; exact hs9⟩, by dsimp only; omega⟩
        · simp at hc4
          have hin : i = M.length := by omega
          have hbd := (leafN_bd f M (F, n) i).2
          rw [hin] at hG hbd
          repeat refine zz ?_
          exact ret2 rfl rfl rfl ⟨hkb, _, fG, by rw [hbd, hin], hG⟩
end Go.E
set_option linter.unusedVariables false
set_option linter.unusedSimpArgs false
namespace Go.E
open Go Go.RowKit Go.Proofs
theorem anyB_cut (f : List Int) (zs : List (Itm × Value)) (c : List Int) : (anyB zs.length fun i => lwr f (gi zs (i : Int)).1.vals c) = cut f (zs.map Prod.fst) c := by
  show (!allB zs.length fun i => !lwr f (gi zs (i : Int)).1.vals c) = !allB (zs.map Prod.fst).length fun i => !lwr f (gi (zs.map Prod.fst) (i : Int)).vals c
  rw [List.length_map]
  congr 1
  refine allB_congr fun i hi => ?_
  rw [gi_mapI hi]
theorem filt_fst (zs : List (Itm × Value)) (p : Itm → Bool) : (zs.filter fun q => !p q.1).map Prod.fst = (zs.map Prod.fst).filter fun y => !p y := by
  induction zs with
  | nil => rfl
  | cons z r ih =>
    simp only [List.filter_cons, List.map_cons]
    cases p z.1 <;> simp [ih]
theorem Wrs.thru {w w1 w2 : World} {S T : List Nat} (h : Wrs w w1 S) (k : Wrs w1 w2 T) (hT : ∀ b, b ∈ T → b ∈ S ∨ w.heap.size ≤ b) : Wrs w w2 S :=
  ⟨k.os.trans h.os, k.tape.trans h.tape, k.output.trans h.output, Nat.le_trans h.size k.size, fun b hb hn => by
    rw [k.other b (Nat.lt_of_lt_of_le hb h.size) (fun hm => by
      rcases hT b hm with h1 | h1
      · exact hn h1
      · omega)]
    exact h.other b hb hn⟩
theorem Upd.wrs {w w' : World} {b : Nat} {t : TypeId} {cs : List Value} (k : Upd w w' b t cs) : Wrs w w' [b] :=
  ⟨k.os, k.tape, k.output, by rw [k.size]; exact Nat.le_refl _, fun c hc hm => k.other c fun e => hm (by simp [e])⟩
theorem grown_wrs {w w' : World} {b : Nat} (k : w.grownBy w' (some b)) : Wrs w w' [b] :=
  ⟨k.os, k.tape, k.output, k.size, fun c hc hm => k.block c hc fun e => hm (by simp at e; simp [e])⟩
theorem vals_of {x : Itm} (h : isItem x = true) : x.vals.length = 3 := isItem_len h
attribute [local irreducible] W WL WD WE thenE inE retQ PureOp Keep Cell Cells Blk Sl Rows Own Src Fresh
attribute [local irreducible] lwr

theorem copyInts_ok2 {w : World} {v : Value} {xs : List Int} {fp : List Nat} (hx : Sl intR w v xs fp) (hn : xs.length ≤ 1048576) :
    Run Tryz.prog 30 [v] w (fun r w' => Keep w w' ∧ OwnF intR w' w.heap.size 3 r xs []) := by
  obtain ⟨A, n, c, rfl, hnx⟩ := hx.split
  refine Run_intro Tryz.func30 (by unfold CallOk; kernel_rfl) rfl Tryz.ntmps30 (Nat.le_of_ble_eq_true rfl) ?_
  simp only [penv, Nat.reduceAdd, Nat.zero_add]
  repeat refine zz ?_
  refine o_buildSlice rfl rfl rfl rfl rfl (by intro p hp; cases hp) (by omega) ?_
  intro b0 w1 hal
  have hk := hal.kp
  have ho1 : OwnF intR w1 w.heap.size 3 (.slice (some ⟨b0, 0, none⟩) 0 0) [] [] := OwnF.made hal.blk (by have := hal.b_eq; omega)
  replace hx := hx.keep hk
  have hsrc := hx.srcI
  have hkz := hal.size
  repeat refine zz ?_
  refine o_appendF (R := intR) (M := w1.heap.size) (gi := []) rfl rfl rfl rfl rfl (by decide) ho1 hsrc hnx (Fresh.nil _ _) (fun b hb => by simp at hb) (fun b hb => (ho1.lt hb).2) (fun b hb => by simp at hb) (by simp only [List.length_nil]; omega) (by simp only [List.length_nil]; omega) (by omega) ?_
  intro v7 w7 ho7 hb7 hg7
  have hk7 : Keep w w7 := hk.grown hg7 (fun b hb => (ho1.lt hb).1)
  repeat refine zz ?_
  exact ret1 rfl rfl ⟨hk7, ho7⟩

theorem box1_ok {w : World} {vf vc u : Value} {f c : List Int} {x : Itm} {gf fc fu : List Nat} {b3 bc : Nat} (h3 : Blk w b3 25 [vf]) (hf : Sl intR w vf f gf) (hbc : Blk w bc 25 [vc]) (hc : Sl intR w vc c fc) (hu : Sl intR w u x.vals fu) (hx : isItem x = true) (hlc : c.length = 3) (hff : isFieldList f = true) :
    Run Tryz.prog 32 [.agg [.int .i64 x.id, u].toArray, .pointer (some ⟨b3, 0, none⟩), .pointer (some ⟨bc, 0, none⟩)] w (fun r w' => r = .bool (lwr f x.vals c) ∧ Keep w w') := by
  refine Run_intro Tryz.func32 (by unfold CallOk; kernel_rfl) rfl Tryz.ntmps32 (Nat.le_of_ble_eq_true rfl) ?_
  simp only [penv, Nat.reduceAdd, Nat.zero_add]
  repeat refine zz ?_
  refine o_boxS rfl rfl rfl ?_
  intro b w1 hal
  have hb := hal.blk
  have hk := hal.kp
  replace h3 := h3.keep hk
  replace hf := hf.keep hk
  replace hbc := hbc.keep hk
  replace hc := hc.keep hk
  replace hu := hu.keep hk
  have c3 := h3.cell (i := 0) rfl
  have cc := hbc.cell (i := 0) rfl
  repeat refine zz ?_
  refine o_call rfl rfl rfl (lower_ok hf hu hc (vals_of hx) hlc hff) ?_
  rintro _ w2 ⟨rfl, hk2⟩
  repeat refine zz ?_
  exact ret1 rfl rfl ⟨rfl, hk.keep hk2⟩

theorem box2_ok {w : World} {vf u ux : Value} {f : List Int} {x y : Itm} {gf fu fx : List Nat} {b3 bx : Nat} (h3 : Blk w b3 25 [vf]) (hf : Sl intR w vf f gf) (hbx : Blk w bx 45 [.int .i64 x.id, ux]) (hux : Sl intR w ux x.vals fx) (hu : Sl intR w u y.vals fu) (hx : isItem x = true) (hy : isItem y = true) (hff : isFieldList f = true) :
    Run Tryz.prog 34 [.agg [.int .i64 y.id, u].toArray, .pointer (some ⟨b3, 0, none⟩), .pointer (some ⟨bx, 0, none⟩)] w (fun r w' => r = .bool (lwr f y.vals x.vals) ∧ Keep w w') := by
  refine Run_intro Tryz.func34 (by unfold CallOk; kernel_rfl) rfl Tryz.ntmps34 (Nat.le_of_ble_eq_true rfl) ?_
  simp only [penv, Nat.reduceAdd, Nat.zero_add]
  repeat refine zz ?_
  refine o_boxS rfl rfl rfl ?_
  intro b w1 hal
  have hb := hal.blk
  have hk := hal.kp
  replace h3 := h3.keep hk
  replace hf := hf.keep hk
  replace hbx := hbx.keep hk
  replace hux := hux.keep hk
  replace hu := hu.keep hk
  have c3 := h3.cell (i := 0) rfl
  have cx := hbx.cells
  repeat refine zz ?_
  refine o_call rfl rfl rfl (lower_ok hf hu hux (vals_of hy) (vals_of hx) hff) ?_
  rintro _ w2 ⟨rfl, hk2⟩
  repeat refine zz ?_
  exact ret1 rfl rfl ⟨rfl, hk.keep hk2⟩

theorem box3_ok {w : World} {vf u ux : Value} {f : List Int} {x y : Itm} {gf fu fx : List Nat} {b3 bx : Nat} (h3 : Blk w b3 25 [vf]) (hf : Sl intR w vf f gf) (hbx : Blk w bx 45 [.int .i64 x.id, ux]) (hux : Sl intR w ux x.vals fx) (hu : Sl intR w u y.vals fu) (hx : isItem x = true) (hy : isItem y = true) (hff : isFieldList f = true) :
    Run Tryz.prog 36 [.agg [.int .i64 y.id, u].toArray, .pointer (some ⟨b3, 0, none⟩), .pointer (some ⟨bx, 0, none⟩)] w (fun r w' => r = .bool (lwr f x.vals y.vals) ∧ Keep w w') := by
  refine Run_intro Tryz.func36 (by unfold CallOk; kernel_rfl) rfl Tryz.ntmps36 (Nat.le_of_ble_eq_true rfl) ?_
  simp only [penv, Nat.reduceAdd, Nat.zero_add]
  repeat refine zz ?_
  refine o_boxS rfl rfl rfl ?_
  intro b w1 hal
  have hb := hal.blk
  have hk := hal.kp
  replace h3 := h3.keep hk
  replace hf := hf.keep hk
  replace hbx := hbx.keep hk
  replace hux := hux.keep hk
  replace hu := hu.keep hk
  have c3 := h3.cell (i := 0) rfl
  have cx := hbx.cells
  repeat refine zz ?_
  refine o_call rfl rfl rfl (lower_ok hf hux hu (vals_of hx) (vals_of hy) hff) ?_
  rintro _ w2 ⟨rfl, hk2⟩
  repeat refine zz ?_
  exact ret1 rfl rfl ⟨rfl, hk.keep hk2⟩

/-- what the program holds while it goes through boxes -/
structure BoxSt (w : World) (base b6 b3 b4 b7 : Nat) (vf : Value) (f : List Int) (gf : List Nat) (zs : List (Itm × Value)) (n : Nat) (vF : Value) (bO : Nat) (g : List Nat) : Prop where
  c6 : Blk w b6 24 [vF]
  c7 : Blk w b7 3 [.int .i64 (n : Int)]
  c3 : Blk w b3 25 [vf]
  c4 : Blk w b4 49 [.func (.func 29) ([] : List Value).toArray ([.pointer (some ⟨b6, 0, none⟩), .pointer (some ⟨b3, 0, none⟩), .pointer (some ⟨b4, 0, none⟩), .pointer (some ⟨b7, 0, none⟩)] : List Value).toArray]
  hf : Sl intR w vf f gf
  own : OwnF ivF.R w base 45 vF zs []
  blk : vF.ownBlock = some bO
  beh : BehV zs g w
  out : b6 ∉ g ∧ b7 ∉ g ∧ bO ∉ g
  lt : ∀ c, c ∈ g → c < w.heap.size
  ok : ∀ p, p ∈ zs → isItem p.1 = true
  ne : bO ≠ b6 ∧ bO ≠ b7 ∧ bO ≠ b3 ∧ bO ≠ b4
  nf : b6 ∉ gf ∧ b7 ∉ gf ∧ bO ∉ gf
  ap : b6 ≠ b7 ∧ b6 ≠ b3 ∧ b6 ≠ b4 ∧ b7 ≠ b3 ∧ b7 ≠ b4
section
variable {w w' : World} {base b6 b3 b4 b7 : Nat} {vf : Value} {f : List Int} {gf : List Nat} {zs : List (Itm × Value)} {n : Nat} {vF : Value} {bO : Nat} {g : List Nat}
theorem BoxSt.keep (h : BoxSt w base b6 b3 b4 b7 vf f gf zs n vF bO g) (k : Keep w w') : BoxSt w' base b6 b3 b4 b7 vf f gf zs n vF bO g :=
  ⟨h.c6.keep k, h.c7.keep k, h.c3.keep k, h.c4.keep k, h.hf.keep k, h.own.keep k, h.blk, h.beh.keep k, h.out, fun c hc => Nat.lt_of_lt_of_le (h.lt c hc) k.size_le, h.ok, h.ne, h.nf, h.ap⟩
theorem BoxSt.lo (h : BoxSt w base b6 b3 b4 b7 vf f gf zs n vF bO g) : bO < w.heap.size := (h.own.lt h.blk).2
/-- the count turns -/
theorem BoxSt.count (h : BoxSt w base b6 b3 b4 b7 vf f gf zs n vF bO g) {m : Nat} (k : Upd w w' b7 3 [.int .i64 (m : Int)]) : BoxSt w' base b6 b3 b4 b7 vf f gf zs m vF bO g :=
  ⟨h.c6.upd k h.ap.1, k.blk, h.c3.upd k (fun e => h.ap.2.2.2.1 e.symm), h.c4.upd k (fun e => h.ap.2.2.2.2 e.symm), h.hf.upd k h.nf.2.1, h.own.upd k (fun e => h.ne.2.1 (by rw [h.blk] at e; simpa using e)) (by simp), h.blk, h.beh.upd k h.out.2.1, h.out, fun c hc => by rw [k.size]; exact h.lt c hc, h.ok, h.ne, h.nf, h.ap⟩
end
end Go.E

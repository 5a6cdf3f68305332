/-
  Contracts: valid items and expressions, valid voters, the best items. Conditions: as stated.
-/
import Derived.Test.YtnlleecmnjnphaaGreatGw
import Derived.Test.YtnlleecmnjnphaaGreatBs
set_option linter.unusedVariables false
set_option linter.unusedSimpArgs false
namespace Go.E
open Go Go.RowKit Go.Proofs
theorem find_val {e : Env} {t : Nat} {a b : Value} (h : find e t = some a) (hab : a = b) : find e t = some b := hab ▸ h
theorem allB_succ (n : Nat) (f : Nat → Bool) : allB (n + 1) f = (allB n f && f n) := by simp [allB, List.range_succ, List.all_append]
def fine (L : List Itm) (e : List Nod) : Bool := areItems L && isExpr e
def areVoters (g : List (List Nod)) : Bool := allB g.length (fun i => isExpr (gi g (i : Int))) && inR (g.length : Int) 1 5
def poll (L : List Itm) (g : List (List Nod)) : Bool := areItems L && areVoters g
theorem areItems_at {L : List Itm} (h : areItems L = true) : (∀ i : Nat, i < L.length → isItem (gi L (i : Int)) = true) ∧ L.length ≤ 16 := by
  simp only [areItems, Bool.and_eq_true, decide_eq_true_eq] at h
  refine ⟨fun i hi => ?_, h.2⟩
  have := List.all_eq_true.1 h.1 i (by simpa using hi)
  simp only [itAt, Bool.and_eq_true] at this
  exact this.1
/-- the numbers of the items that are picked -/
def pickN (L : List Itm) (p : Nat → Bool) : Nat → List Int
  | 0 => []
  | n + 1 => pickN L p n ++ (if p n then [(gi L (n : Int)).id] else [])
theorem pickN_len (L : List Itm) (p : Nat → Bool) (n : Nat) : (pickN L p n).length ≤ n := by
  induction n with
  | zero => simp [pickN]
  | succ n ih => simp only [pickN, List.length_append]; split <;> simp <;> omega
theorem pickN_congr {L : List Itm} {p q : Nat → Bool} {n : Nat} (h : ∀ i, i < n → p i = q i) : pickN L p n = pickN L q n := by
  induction n with
  | zero => rfl
  | succ n ih => rw [pickN, pickN, ih fun i hi => h i (by omega), h n (by omega)]
theorem pickN_t {L : List Itm} {p : Nat → Bool} {n : Nat} (h : p n = true) : pickN L p (n + 1) = pickN L p n ++ [(gi L (n : Int)).id] := by rw [pickN, if_pos h]
theorem pickN_f {L : List Itm} {p : Nat → Bool} {n : Nat} (h : p n = false) : pickN L p (n + 1) = pickN L p n := by rw [pickN, if_neg (by simp [h]), List.append_nil]
/-- no item of the list is better than item i -/
def unbeaten (L : List Itm) (e : List Nod) (i : Nat) : Bool := allB L.length fun j => decide (cmpE e (gi L (j : Int)) (gi L (i : Int)) ≠ 1)
def bestL (L : List Itm) (e : List Nod) : List Int := pickN L (unbeaten L e) L.length
def bestItems (L : List Itm) (e : List Nod) : List Int := if fine L e then bestL L e else []
theorem bestL_len (L : List Itm) (e : List Nod) : (bestL L e).length ≤ L.length := pickN_len _ _ _
theorem bestItems_len (L : List Itm) (e : List Nod) : (bestItems L e).length ≤ 16 := by
  unfold bestItems
  split
  · rename_i h
    simp only [fine, Bool.and_eq_true] at h
    have := (areItems_at h.1).2; have := bestL_len L e; omega
  · simp
attribute [local irreducible] W WL WD WE thenE inE retQ PureOp Keep Cell Cells Blk Sl Rows Own Src Fresh
attribute [local irreducible] cmpE isExpr areItems pickN

theorem l7Fine_ok {w : World} {v u : Value} {L : List Itm} {e : List Nod} {fp gp : List Nat} (hL : Sl itemR w v L fp) (he : Sl nodeR w u e gp) (hn : e.length + totN e ≤ 1048576) :
    Run Tryz.prog 46 [v, u] w (fun r w' => r = .bool (fine L e) ∧ Keep w w') := by
  refine Run_intro Tryz.func46 (by unfold CallOk; kernel_rfl) rfl Tryz.ntmps46 (Nat.le_of_ble_eq_true rfl) ?_
  simp only [penv, Nat.reduceAdd, Nat.zero_add]
  repeat refine zz ?_
  refine o_call rfl rfl rfl (spec_AreItems_ok hL) ?_
  rintro _ w1 ⟨rfl, hk1⟩
  replace he := he.keep hk1
  repeat refine zz ?_
  refine WL_part rfl rfl (fun h => ?_) (fun h => ?_)
  · repeat refine zz ?_
    refine o_call rfl rfl rfl (spec_IsExpression_ok he hn) ?_
    rintro _ w2 ⟨rfl, hk2⟩
    repeat refine zz ?_
    exact ret1 rfl rfl ⟨by rw [fine, h]; rfl, hk1.keep hk2⟩
  · repeat refine zz ?_
    exact ret1 rfl rfl ⟨by rw [fine, h]; rfl, hk1⟩

set_option maxHeartbeats 1000000 in
theorem l7Best_ok {w : World} {v u : Value} {L : List Itm} {e : List Nod} {fp gp : List Nat} (hL : Sl itemR w v L fp) (he : Sl nodeR w u e gp) (hex : isExpr e = true) (hit : ∀ i : Nat, i < L.length → isItem (gi L (i : Int)) = true) (hn : L.length ≤ 16) :
    Run Tryz.prog 28 [v, u] w (fun r w' => Keep w w' ∧ ∃ fp, Sl intR w' r (bestL L e) fp ∧ Fresh w.heap.size w' fp) := by
  obtain ⟨A, n, c, rfl, hnx⟩ := hL.split
  refine Run_intro Tryz.func28 (by unfold CallOk; kernel_rfl) rfl Tryz.ntmps28 (Nat.le_of_ble_eq_true rfl) ?_
  simp only [penv, Nat.reduceAdd, Nat.zero_add]
  repeat refine zz ?_
  refine o_buildSlice rfl rfl rfl rfl rfl (by intro p hp; cases hp) (by omega) ?_
  intro b0 w1 hal
  have ho : OwnF intR w1 w.heap.size 3 (.slice (some ⟨b0, 0, none⟩) 0 0) [] [] := OwnF.made hal.blk (by have := hal.b_eq; omega)
  repeat refine zz ?_
  refine W_loop (S := Nat × Value) (fun s => [(0, .slice A n c), (1, u), (5, s.2), (6, .int .i64 (s.1 : Int))]) (fun s w' => Keep w w' ∧ s.1 ≤ n ∧ OwnF intR w' w.heap.size 3 s.2 (pickN L (unbeaten L e) s.1) []) (fun s => n - s.1) (0, _) ⟨rfl, rfl, rfl, rfl, trivial⟩ ⟨hal.kp, Nat.zero_le _, by unfold pickN; exact ho⟩ ?_
  clear ho hal
  rintro ⟨k, va⟩ wa ⟨hka, hkn, hoa⟩
  dsimp only at hkn hoa ⊢
  have hpl := pickN_len L (unbeaten L e) k
  repeat refine zz ?_
  refine W_cond rfl (fun hc => ?_) (fun hc => ?_)
  · have hkl : k < n := by simp at hc; omega
    repeat refine zz ?_
    refine W_loop (S := Nat) (fun j => [(0, .slice A n c), (1, u), (5, va), (6, .int .i64 (k : Int)), (7, .bool (allB j fun j => decide (cmpE e (gi L (j : Int)) (gi L (k : Int)) ≠ 1))), (8, .int .i64 (j : Int))]) (fun j w' => Keep wa w' ∧ j ≤ n) (fun j => n - j) 0 ⟨rfl, rfl, rfl, rfl, rfl, rfl, trivial⟩ ⟨Keep.refl _, Nat.zero_le _⟩ ?_
    rintro j wb ⟨hkb, hj⟩
    have hkc := hka.keep hkb
    have hLb := hL.keep hkc
    have heb := he.keep hkc
    repeat refine zz ?_
    refine W_cond rfl (fun hcj => ?_) (fun hcj => ?_)
    · have hjl : j < n := by simp at hcj; omega
      obtain ⟨hA, u1, f1, hcell1, hu1, _⟩ := item_get hLb (i := (j : Int)) (by omega) (by omega)
      obtain ⟨_, u2, f2, hcell2, hu2, _⟩ := item_get hLb (i := (k : Int)) (by omega) (by omega)
      have hsu := allB_succ j fun j => decide (cmpE e (gi L (j : Int)) (gi L (k : Int)) ≠ 1)
      repeat refine zz ?_
      refine W_quiet (Keep wb) (by kernel_rfl) (by kernel_rfl) (Keep.drew _) ?_
      repeat refine qq ?_
      refine WQ_part rfl rfl (fun h => ?_) (fun h => ?_)
      · repeat refine qq ?_
        refine WQ_call rfl rfl rfl (fun w' hw' => (l5Compare_ok (heb.keep hw') (hu1.keep hw') (hu2.keep hw') hex (hit j (by omega)) (hit k (by omega))).kk hw') ?_
        repeat refine qq ?_
        intro wd hkd 
        repeat refine zz ?_
        exact ⟨j + 1, ⟨rfl, rfl, rfl, rfl, find_val rfl (by rw [hsu, h]; rfl), rfl, trivial⟩, ⟨hkb.keep hkd, by omega⟩, by omega⟩
      · repeat refine qq ?_
        intro wd hkd 
        repeat refine zz ?_
        exact ⟨j + 1, ⟨rfl, rfl, rfl, rfl, find_val rfl (by rw [hsu, h]; rfl), rfl, trivial⟩, ⟨hkb.keep hkd, by omega⟩, by omega⟩
    · simp at hcj
      obtain rfl : j = n := by omega
      obtain ⟨hA, u2, f2, hcell2, hu2, _⟩ := item_get hLb (i := (k : Int)) (by omega) (by omega)
      replace hoa := hoa.keep hkb
      replace hka := hkc
      have hub : unbeaten L e k = allB j fun j => decide (cmpE e (gi L (j : Int)) (gi L (k : Int)) ≠ 1) := by rw [unbeaten, hnx]
      rw [← hub]
      repeat refine zz ?_
      refine W_cond rfl (fun hd => ?_) (fun hd => ?_)
      · repeat refine zz ?_
        refine o_buildSlice rfl rfl rfl rfl rfl (by simp [Value.cells]) (by omega) ?_
        intro bB wB halB
        have hzB := halB.size
        have hzK := hka.size_le
        replace hka := hka.keep halB.kp
        replace hoa := hoa.keep halB.kp
        repeat refine zz ?_
        refine o_appendF (R := intR) (M := _) (gi := []) rfl rfl rfl rfl rfl (by decide) hoa (Blk.src (xs := [(gi L (k : Int)).id]) halB.blk (Rows.ints _ _)) rfl (Fresh.nil _ _) (fun b hb => by simp at hb) (fun b hb => (hoa.lt hb).2) (fun b hb => by simp at hb) (by simp only [List.length_cons, List.length_nil]; omega) (by simp only [List.length_cons, List.length_nil]; omega) (by omega) ?_
        intro vN wN hoN hbN hgN
        have hkN : Keep w wN := hka.grown hgN (fun b hb => (hoa.lt hb).1)
        repeat refine zz ?_
        exact ⟨(k + 1, vN), ⟨rfl, rfl, rfl, rfl, trivial⟩, ⟨hkN, by dsimp only; omega, by dsimp only; rw [pickN_t hd]; exact hoN⟩, by dsimp only; omega⟩
      · repeat refine zz ?_
        exact ⟨(k + 1, va), ⟨rfl, rfl, rfl, rfl, trivial⟩, ⟨hka, by dsimp only; omega, by dsimp only; rw [pickN_f hd]; exact hoa⟩, by dsimp only; omega⟩
  · simp at hc
    obtain rfl : k = n := by omega
    repeat refine zz ?_
    obtain ⟨fp, hs, hf⟩ := hoa.sl (by decide)
    exact ret1 rfl rfl ⟨hka, fp, by rw [bestL, ← hnx]; exact hs, hf⟩

set_option maxHeartbeats 1000000 in
theorem best_own {w : World} {v u : Value} {L : List Itm} {e : List Nod} {fp gp : List Nat} (hL : Sl itemR w v L fp) (he : Sl nodeR w u e gp) (hex : isExpr e = true) (hit : ∀ i : Nat, i < L.length → isItem (gi L (i : Int)) = true) (hn : L.length ≤ 16) :
    Run Tryz.prog 25 [v, u] w (fun r w' => Keep w w' ∧ OwnF intR w' w.heap.size 3 r (bestL L e) []) := by
  obtain ⟨A, n, c, rfl, hnx⟩ := hL.split
  refine Run_intro Tryz.func25 (by unfold CallOk; kernel_rfl) rfl Tryz.ntmps25 (Nat.le_of_ble_eq_true rfl) ?_
  simp only [penv, Nat.reduceAdd, Nat.zero_add]
  repeat refine zz ?_
  refine o_buildSlice rfl rfl rfl rfl rfl (by intro p hp; cases hp) (by omega) ?_
  intro b0 w1 hal
  have ho : OwnF intR w1 w.heap.size 3 (.slice (some ⟨b0, 0, none⟩) 0 0) [] [] := OwnF.made hal.blk (by have := hal.b_eq; omega)
  repeat refine zz ?_
  refine W_loop (S := Nat × Value) (fun s => [(0, .slice A n c), (1, u), (5, s.2), (12, .slice A n c), (13, .int .i64 n), (14, .int .i64 (s.1 : Int))]) (fun s w' => Keep w w' ∧ s.1 ≤ n ∧ OwnF intR w' w.heap.size 3 s.2 (pickN L (unbeaten L e) s.1) []) (fun s => n - s.1) (0, _) ⟨rfl, rfl, rfl, rfl, rfl, rfl, trivial⟩ ⟨hal.kp, Nat.zero_le _, by unfold pickN; exact ho⟩ ?_
  clear ho hal
  rintro ⟨k, va⟩ wa ⟨hka, hkn, hoa⟩
  dsimp only at hkn hoa ⊢
  have hpl := pickN_len L (unbeaten L e) k
  repeat refine zz ?_
  refine W_cond rfl (fun hc => ?_) (fun hc => ?_)
  · have hkl : k < n := by simp at hc; omega
    obtain ⟨hA, u2, f2, hcell, hu2, _⟩ := item_get (hL.keep hka) (i := (k : Int)) (by omega) (by omega)
    have o2 := hu2.oneCell
    repeat refine zz ?_
    refine o_alloc rfl rfl ?_
    intro bR wR halR
    have hbR0 := halR.blk
    repeat refine zz ?_
    refine o_storeS (b := bR) (off := 0) rfl rfl rfl rfl (by repeat (first | exact ones_nil | refine ones_cons (by first | rfl | assumption) ?_)) rfl hbR0 (by simp) ?_
    intro wS huS
    have hbR : Blk wS bR _ [.int .i64 (gi L (k : Int)).id, u2] := huS.blk
    have hkS := halR.kp.upd huS (Nat.le_of_eq halR.b_eq.symm)
    have hRe := halR.b_eq
    clear hbR0 huS halR
    replace hka := hka.keep hkS
    replace hoa := hoa.keep hkS
    replace hu2 := hu2.keep hkS
    clear hcell
    have hb2 := hbR
    clear hbR hRe
    repeat refine zz ?_
    refine W_loop (S := Nat) (fun j => [(0, .slice A n c), (1, u), (5, va), (12, .slice A n c), (13, .int .i64 n), (14, .int .i64 (k : Int)), (7, .pointer (some ⟨bR, 0, none⟩)), (8, .bool (!allB j fun j => decide (cmpE e (gi L (j : Int)) (gi L (k : Int)) ≠ 1))), (18, .slice A n c), (19, .int .i64 n), (20, .int .i64 (j : Int))]) (fun j w' => Keep wS w' ∧ j ≤ n) (fun j => n - j) 0 ⟨rfl, rfl, rfl, rfl, rfl, rfl, rfl, rfl, rfl, rfl, rfl, trivial⟩ ⟨Keep.refl _, Nat.zero_le _⟩ ?_
    clear hkS
    rintro j wb ⟨hkb, hj⟩
    have hkc := hka.keep hkb
    have hLb := hL.keep hkc
    repeat refine zz ?_
    refine W_cond rfl (fun hcj => ?_) (fun hcj => ?_)
    · have hjl : j < n := by simp at hcj; omega
      obtain ⟨hA, u1, f1, hcell, hu1, _⟩ := item_get hLb (i := (j : Int)) (by omega) (by omega)
      have o1 := hu1.oneCell
      have hsu := allB_succ j fun j => decide (cmpE e (gi L (j : Int)) (gi L (k : Int)) ≠ 1)
      have hkz := hkb
      repeat refine zz ?_
      refine o_alloc rfl rfl ?_
      intro bR wR halR
      have hbR0 := halR.blk
      repeat refine zz ?_
      refine o_storeS (b := bR) (off := 0) rfl rfl rfl rfl (by repeat (first | exact ones_nil | refine ones_cons (by first | rfl | assumption) ?_)) rfl hbR0 (by simp) ?_
      intro wS huS
      have hbR : Blk wS bR _ [.int .i64 (gi L (j : Int)).id, u1] := huS.blk
      have hkS := halR.kp.upd huS (Nat.le_of_eq halR.b_eq.symm)
      have hRe := halR.b_eq
      clear hbR0 huS halR
      replace hkb := hkb.keep hkS
      have hkc := hka.keep hkb
      have heb := he.keep hkc
      replace hu1 := hu1.keep hkS
      clear hcell
      have hbO := hb2.keep hkb
      have hu2b := hu2.keep hkb
      repeat refine zz ?_
      refine WL_part rfl rfl (fun h => ?_) (fun h => ?_)
      · simp only [Bool.not_eq_true'] at h
        repeat refine zz ?_
        exact ⟨j + 1, ⟨rfl, rfl, rfl, rfl, rfl, rfl, rfl, find_val rfl (by rw [hsu, h]; rfl), rfl, rfl, rfl, trivial⟩, ⟨hkb, by omega⟩, by omega⟩
      · simp only [Bool.not_eq_false'] at h
        repeat refine zz ?_
        refine o_call rfl rfl rfl (compareBy_ok heb hu1 hu2b hex (hit j (by omega)) (hit k (by omega))) ?_
        rintro _ wd ⟨rfl, hkd⟩
        repeat refine zz ?_
        exact ⟨j + 1, ⟨rfl, rfl, rfl, rfl, rfl, rfl, rfl, find_val rfl (by rw [hsu, h]; simp), rfl, rfl, rfl, trivial⟩, ⟨hkb.keep hkd, by omega⟩, by omega⟩
    · simp at hcj
      obtain rfl : j = n := by omega
      replace hoa := hoa.keep hkb
      replace hka := hkc
      have hbO := hb2.keep hkb
      have hub : unbeaten L e k = allB j fun j => decide (cmpE e (gi L (j : Int)) (gi L (k : Int)) ≠ 1) := by rw [unbeaten, hnx]
      rw [← hub]
      repeat refine zz ?_
      refine W_cond rfl (fun hd => ?_) (fun hd => ?_)
      · simp only [Bool.not_not] at hd
        repeat refine zz ?_
        refine o_buildSlice rfl rfl rfl rfl rfl (by simp [Value.cells]) (by omega) ?_
        intro bB wB halB
        have hzB := halB.size
        have hzK := hka.size_le
        replace hka := hka.keep halB.kp
        replace hoa := hoa.keep halB.kp
        repeat refine zz ?_
        refine o_appendF (R := intR) (M := _) (gi := []) rfl rfl rfl rfl rfl (by decide) hoa (Blk.src (xs := [(gi L (k : Int)).id]) halB.blk (Rows.ints _ _)) rfl (Fresh.nil _ _) (fun b hb => by simp at hb) (fun b hb => (hoa.lt hb).2) (fun b hb => by simp at hb) (by simp only [List.length_cons, List.length_nil]; omega) (by simp only [List.length_cons, List.length_nil]; omega) (by omega) ?_
        intro vN wN hoN hbN hgN
        have hkN : Keep w wN := hka.grown hgN (fun b hb => (hoa.lt hb).1)
        repeat refine zz ?_
        exact ⟨(k + 1, vN), ⟨rfl, rfl, rfl, rfl, rfl, rfl, trivial⟩, ⟨hkN, by dsimp only; omega, by dsimp only; rw [pickN_t hd]; exact hoN⟩, by dsimp only; omega⟩
      · simp only [Bool.not_not] at hd
        repeat refine zz ?_
        exact ⟨(k + 1, va), ⟨rfl, rfl, rfl, rfl, rfl, rfl, trivial⟩, ⟨hka, by dsimp only; omega, by dsimp only; rw [pickN_f hd]; exact hoa⟩, by dsimp only; omega⟩
  · simp at hc
    obtain rfl : k = n := by omega
    repeat refine zz ?_
    exact ret1 rfl rfl ⟨hka, by rw [bestL, ← hnx]; exact hoa⟩
theorem best_ok {w : World} {v u : Value} {L : List Itm} {e : List Nod} {fp gp : List Nat} (hL : Sl itemR w v L fp) (he : Sl nodeR w u e gp) (hex : isExpr e = true) (hit : ∀ i : Nat, i < L.length → isItem (gi L (i : Int)) = true) (hn : L.length ≤ 16) :
    Run Tryz.prog 25 [v, u] w (fun r w' => Keep w w' ∧ ∃ fp, Sl intR w' r (bestL L e) fp ∧ Fresh w.heap.size w' fp) :=
  (best_own hL he hex hit hn).mono fun r w' ⟨hk, ho⟩ => ⟨hk, ho.sl (by decide)⟩

theorem spec_BestItems_ok {w : World} {v u : Value} {L : List Itm} {e : List Nod} {fp gp : List Nat} (hL : Sl itemR w v L fp) (he : Sl nodeR w u e gp) (hn : e.length + totN e ≤ 1048576) :
    Run Tryz.prog 17 [v, u] w (fun r w' => Keep w w' ∧ ∃ fp, Sl intR w' r (bestItems L e) fp ∧ Fresh w.heap.size w' fp) := by
  refine Run_intro Tryz.func17 (by unfold CallOk; kernel_rfl) rfl Tryz.ntmps17 (Nat.le_of_ble_eq_true rfl) ?_
  simp only [penv, Nat.reduceAdd, Nat.zero_add]
  repeat refine zz ?_
  refine o_call rfl rfl rfl (l7Fine_ok hL he hn) ?_
  rintro _ w1 ⟨rfl, hk1⟩
  replace hL := hL.keep hk1
  replace he := he.keep hk1
  repeat refine zz ?_
  refine W_cond rfl (fun h => ?_) (fun h => ?_)
  · simp at h
    repeat refine zz ?_
    refine o_buildSlice rfl rfl rfl rfl rfl (by intro p hp; cases hp) (by omega) ?_
    intro b0 w2 hal
    have hz := hk1.size_le
    have ho : OwnF intR w2 w.heap.size 3 (.slice (some ⟨b0, 0, none⟩) 0 0) [] [] := OwnF.made hal.blk (by have := hal.b_eq; omega)
    repeat refine zz ?_
    obtain ⟨fp, hs, hf⟩ := ho.sl (by decide)
    exact ret1 rfl rfl ⟨hk1.keep hal.kp, fp, by rw [bestItems, h]; exact hs, hf⟩
  · simp at h
    have h' := h
    simp only [fine, Bool.and_eq_true] at h'
    obtain ⟨h1, h2⟩ := h'
    have h3 := areItems_at h1
    repeat refine zz ?_
    refine o_call rfl rfl rfl (l7Best_ok hL he h2 h3.1 h3.2) ?_
    rintro v2 w2 ⟨hk2, fp, hs, hf⟩
    repeat refine zz ?_
    exact ret1 rfl rfl ⟨hk1.keep hk2, fp, by rw [bestItems, if_pos h]; exact hs, hf.mono hk1.size_le⟩

end Go.E

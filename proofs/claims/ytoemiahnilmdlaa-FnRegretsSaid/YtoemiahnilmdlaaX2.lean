/-
  Contracts: what dominates an item and what it dominates, ranks, the width. Conditions: as stated.
-/
import Derived.Test.YtoemiahnilmdlaaX1
set_option linter.unusedVariables false
set_option linter.unusedSimpArgs false
namespace Go.E
open Go Go.RowKit Go.Proofs
/-- the items that compare with the one of a number in a way -/
def relL (L : List Itm) (e : List Nod) (id code : Int) : List Int := if fine L e && decide (0 ≤ findI L id) then pickN L (fun i => decide (cmpE e (gi L (i : Int)) (gi L (findI L id)) = code)) L.length else []
theorem relL_len (L : List Itm) (e : List Nod) (id code : Int) : (relL L e id code).length ≤ 16 := by
  unfold relL
  split
  · rename_i h
    simp only [fine, Bool.and_eq_true] at h
    have := (areItems_at h.1.1).2
    have := pickN_len L (fun i => decide (cmpE e (gi L (i : Int)) (gi L (findI L id)) = code)) L.length
    omega
  · simp
theorem findI_lt (L : List Itm) (id : Int) : findI L id < L.length := by
  unfold findI
  rcases idxB_cases L.length fun i => decide ((gi L (i : Int)).id = id) with ⟨h, _⟩ | ⟨k, h, hk, _⟩ <;> rw [h] <;> omega
theorem flip1 {e : List Nod} (h : isExpr e = true) (x y : Itm) : (cmpE e x y = 1 ↔ cmpE e y x = -1) := by
  have h1 := (cmpE_ok h).anti x y
  have h2 := (cmpE_ok h).anti y x
  have r1 := (cmpE_ok h).rng x y
  have r2 := (cmpE_ok h).rng y x
  constructor
  · intro h3
    have := h1.2 (by omega); omega
  · intro h3
    have := h2.2 (by omega); omega
def rankL (L : List Itm) (e : List Nod) (id : Int) : Int := if fine L e && decide (0 ≤ findI L id) then ((relL L e id 1).length : Int) else -1
def freeN (L : List Itm) (e : List Nod) (i : Nat) : Nat → Int
  | 0 => 0
  | n + 1 => if cmpE e (gi L (i : Int)) (gi L (n : Int)) = 2 ∨ cmpE e (gi L (i : Int)) (gi L (n : Int)) = 0 then freeN L e i n + 1 else freeN L e i n
def widN (L : List Itm) (e : List Nod) : Nat → Int
  | 0 => 0
  | n + 1 => max (widN L e n) (freeN L e n L.length)
def width (L : List Itm) (e : List Nod) : Int := if fine L e then widN L e L.length else 0
theorem freeN_bd (L : List Itm) (e : List Nod) (i n : Nat) : 0 ≤ freeN L e i n ∧ freeN L e i n ≤ n := by
  induction n with
  | zero => simp [freeN]
  | succ n ih => simp only [freeN]; split <;> omega
theorem freeN_succ (L : List Itm) (e : List Nod) (i n : Nat) : freeN L e i (n + 1) = if cmpE e (gi L (i : Int)) (gi L (n : Int)) = 2 ∨ cmpE e (gi L (i : Int)) (gi L (n : Int)) = 0 then freeN L e i n + 1 else freeN L e i n := rfl
theorem widN_succ (L : List Itm) (e : List Nod) (n : Nat) : widN L e (n + 1) = max (widN L e n) (freeN L e n L.length) := rfl
theorem fine_ok {L : List Itm} {e : List Nod} (h : fine L e = true) : (∀ i : Nat, i < L.length → isItem (gi L (i : Int)) = true) ∧ L.length ≤ 16 ∧ isExpr e = true := by
  simp only [fine, Bool.and_eq_true] at h
  exact ⟨(areItems_at h.1).1, (areItems_at h.1).2, h.2⟩
attribute [local irreducible] W WL WD WE thenE inE retQ PureOp Keep Cell Cells Blk Sl Rows Own Src Fresh
attribute [local irreducible] cmpE isExpr areItems pickN freeN widN

set_option maxHeartbeats 1000000 in
theorem related_ok {w : World} {v u : Value} {L : List Itm} {e : List Nod} {fp gp : List Nat} (hL : Sl itemR w v L fp) (he : Sl nodeR w u e gp) (id code : Int) (hn : e.length + totN e ≤ 1048576) :
    Run Try.prog 232 [v, u, .int .i64 id, .int .i64 code] w (fun r w' => Keep w w' ∧ ∃ fp, Sl intR w' r (relL L e id code) fp ∧ Fresh w.heap.size w' fp) := by
  refine Run_intro Try.func232 (by unfold CallOk; kernel_rfl) rfl Try.ntmps232 (Nat.le_of_ble_eq_true rfl) ?_
  simp only [penv, Nat.reduceAdd, Nat.zero_add]
  repeat refine zz ?_
  refine o_buildSlice rfl rfl rfl rfl rfl (by intro p hp; cases hp) (by omega) ?_
  intro b0 w1 hal
  have ho : OwnF intR w1 w.heap.size 3 (.slice (some ⟨b0, 0, none⟩) 0 0) [] [] := OwnF.made hal.blk (by have := hal.b_eq; omega)
  have hk := hal.kp
  repeat refine zz ?_
  refine o_call rfl rfl rfl (impl_FindItem_ok (hL.keep hk)) ?_
  rintro _ w2 ⟨rfl, hk2⟩
  replace hk := hk.keep hk2
  replace ho := ho.keep hk2
  repeat refine zz ?_
  refine o_call rfl rfl rfl (areBoth_ok (hL.keep hk) (he.keep hk) hn) ?_
  rintro _ w3 ⟨rfl, hk3⟩
  replace hk := hk.keep hk3
  replace ho := ho.keep hk3
  repeat refine zz ?_
  refine WL_part rfl rfl (fun h => ?_) (fun h => ?_)
  · simp at h
    repeat refine zz ?_
    obtain ⟨fp, hs, hf⟩ := ho.sl (by decide)
    exact ret1 rfl rfl ⟨hk, fp, by rw [relL, h]; exact hs, hf⟩
  simp at h
  repeat refine zz ?_
  refine W_cond rfl (fun h2 => ?_) (fun h2 => ?_)
  · simp at h2
    repeat refine zz ?_
    obtain ⟨fp, hs, hf⟩ := ho.sl (by decide)
    exact ret1 rfl rfl ⟨hk, fp, by rw [relL, if_neg (by simp; omega)]; exact hs, hf⟩
  simp at h2
  obtain ⟨hit, hln, hex⟩ := fine_ok h
  have hfl := findI_lt L id
  have hrel : relL L e id code = pickN L (fun i => decide (cmpE e (gi L (i : Int)) (gi L (findI L id)) = code)) L.length := by rw [relL, if_pos (by simp [h, h2])]
  generalize hp : (fun i : Nat => decide (cmpE e (gi L (i : Int)) (gi L (findI L id)) = code)) = p at hrel
  have hpi : ∀ i : Nat, p i = decide (cmpE e (gi L (i : Int)) (gi L (findI L id)) = code) := fun i => by rw [← hp]
  obtain ⟨A, n, c, rfl, hnx⟩ := hL.split
  repeat refine zz ?_
  refine W_loop (S := Nat × Value) (fun s => [(0, .slice A n c), (1, u), (3, .int .i64 code), (10, .int .i64 (findI L id)), (9, s.2), (26, .slice A n c), (27, .int .i64 n), (28, .int .i64 (s.1 : Int))]) (fun s w' => Keep w w' ∧ s.1 ≤ n ∧ OwnF intR w' w.heap.size 3 s.2 (pickN L p s.1) []) (fun s => n - s.1) (0, _) ⟨rfl, rfl, rfl, rfl, rfl, rfl, rfl, rfl, trivial⟩ ⟨hk, Nat.zero_le _, by unfold pickN; exact ho⟩ ?_
  clear ho hal hk hk2 hk3
  rintro ⟨k, va⟩ wa ⟨hka, hkn, hoa⟩
  dsimp only at hkn hoa ⊢
  have hpl := pickN_len L p k
  repeat refine zz ?_
  refine W_cond rfl (fun hc => ?_) (fun hc => ?_)
  · have hkl : k < n := by simp at hc; omega
    obtain ⟨hA, u1, f1, hcell, hu1, _⟩ := item_get (hL.keep hka) (i := (k : Int)) (by omega) (by omega)
    have o1 := hu1.oneCell
    repeat refine zz ?_
    refine o_alloc rfl rfl ?_
    intro bR wR halR
    have hbR0 := halR.blk
    repeat refine zz ?_
    refine o_storeS (b := bR) (off := 0) rfl rfl rfl rfl (by repeat (first | exact ones_nil | refine ones_cons (by first | rfl | assumption) ?_)) rfl hbR0 (by simp) ?_
    intro wS huS
    have hbR : Blk wS bR _ [.int .i64 (gi L (k : Int)).id, u1] := huS.blk
    have hkS := halR.kp.upd huS (Nat.le_of_eq halR.b_eq.symm)
    have hRe := halR.b_eq
    clear hbR0 huS halR
    replace hka := hka.keep hkS
    replace hoa := hoa.keep hkS
    replace hu1 := hu1.keep hkS
    clear hcell
    obtain ⟨_, u2, f2, hcell2, hu2, _⟩ := item_get (hL.keep hka) (i := findI L id) (by omega) (by omega)
    have heb := he.keep hka
    have hi2 := hit (findI L id).toNat (by omega)
    rw [Int.toNat_of_nonneg h2] at hi2
    repeat refine zz ?_
    refine W_quiet (Keep wS) (by kernel_rfl) (by kernel_rfl) (Keep.drew _) ?_
    repeat refine qq ?_
    refine WQ_call rfl rfl rfl (fun w' hw' => (compareBy_ok (heb.keep hw') (hu1.keep hw') (hu2.keep hw') hex (hit k (by omega)) hi2).kk hw') ?_
    repeat refine qq ?_
    intro wd hkd 
    replace hka := hka.keep hkd
    replace hoa := hoa.keep hkd
    replace hbR := hbR.keep hkd
    rw [← hpi]
    repeat refine zz ?_
    refine W_cond rfl (fun hd => ?_) (fun hd => ?_)
    · repeat refine zz ?_
      refine o_buildSlice rfl rfl rfl rfl rfl (by simp [Value.cells]) (by omega) ?_
      intro bB wB halB
      have hzB := halB.size
      have hzK := hka.size_le
      replace hka := hka.keep halB.kp
      replace hoa := hoa.keep halB.kp
      repeat refine zz ?_
      refine o_appendF (R := intR) (M := _) (gi := []) rfl rfl rfl rfl rfl (by decide) hoa (Blk.src (xs := [(gi L (k : Int)).id]) halB.blk (Rows.ints _ _)) rfl (Fresh.nil _ _) (fun b hb => by simp at hb) (fun b hb => (hoa.lt hb).2) (fun b hb => by simp at hb) (by simp only [List.length_cons, List.length_nil]; omega) (by simp only [List.length_cons, List.length_nil]; omega) (by omega) ?_
      intro vN wN hoN hbN hgN
      have hkN : Keep w wN := hka.grown hgN (fun b hb => (hoa.lt hb).1)
      repeat refine zz ?_
      exact ⟨(k + 1, vN), ⟨rfl, rfl, rfl, rfl, rfl, rfl, rfl, rfl, trivial⟩, ⟨hkN, by dsimp only; omega, by dsimp only; rw [pickN_t hd]; exact hoN⟩, by dsimp only; omega⟩
    · repeat refine zz ?_
      exact ⟨(k + 1, va), ⟨rfl, rfl, rfl, rfl, rfl, rfl, rfl, rfl, trivial⟩, ⟨hka, by dsimp only; omega, by dsimp only; rw [pickN_f hd]; exact hoa⟩, by dsimp only; omega⟩
  · simp at hc
    obtain rfl : k = n := by omega
    repeat refine zz ?_
    obtain ⟨fp, hs, hf⟩ := hoa.sl (by decide)
    exact ret1 rfl rfl ⟨hka, fp, by rw [hrel, ← hnx]; exact hs, hf⟩

theorem impl_DominatorsOf_ok {w : World} {v u : Value} {L : List Itm} {e : List Nod} {fp gp : List Nat} (hL : Sl itemR w v L fp) (he : Sl nodeR w u e gp) (id : Int) (hn : e.length + totN e ≤ 1048576) :
    Run Try.prog 182 [v, u, .int .i64 id] w (fun r w' => Keep w w' ∧ ∃ fp, Sl intR w' r (relL L e id 1) fp ∧ Fresh w.heap.size w' fp) := by
  refine Run_intro Try.func182 (by unfold CallOk; kernel_rfl) rfl Try.ntmps182 (Nat.le_of_ble_eq_true rfl) ?_
  simp only [penv, Nat.reduceAdd, Nat.zero_add]
  repeat refine zz ?_
  refine o_call rfl rfl rfl (related_ok hL he id 1 hn) ?_
  rintro v2 w2 ⟨hk2, fp, hs, hf⟩
  repeat refine zz ?_
  exact ret1 rfl rfl ⟨hk2, fp, hs, hf⟩

theorem impl_DominatedBy_ok {w : World} {v u : Value} {L : List Itm} {e : List Nod} {fp gp : List Nat} (hL : Sl itemR w v L fp) (he : Sl nodeR w u e gp) (id : Int) (hn : e.length + totN e ≤ 1048576) :
    Run Try.prog 191 [v, u, .int .i64 id] w (fun r w' => Keep w w' ∧ ∃ fp, Sl intR w' r (relL L e id (-1)) fp ∧ Fresh w.heap.size w' fp) := by
  refine Run_intro Try.func191 (by unfold CallOk; kernel_rfl) rfl Try.ntmps191 (Nat.le_of_ble_eq_true rfl) ?_
  simp only [penv, Nat.reduceAdd, Nat.zero_add]
  repeat refine zz ?_
  refine o_call rfl rfl rfl (related_ok hL he id (-1) hn) ?_
  rintro v2 w2 ⟨hk2, fp, hs, hf⟩
  repeat refine zz ?_
  exact ret1 rfl rfl ⟨hk2, fp, hs, hf⟩

set_option maxHeartbeats 1000000 in
theorem spec_DominatorsOf_ok {w : World} {v u : Value} {L : List Itm} {e : List Nod} {fp gp : List Nat} (hL : Sl itemR w v L fp) (he : Sl nodeR w u e gp) (id : Int) (hn : e.length + totN e ≤ 1048576) :
    Run Try.prog 77 [v, u, .int .i64 id] w (fun r w' => Keep w w' ∧ ∃ fp, Sl intR w' r (relL L e id (1)) fp ∧ Fresh w.heap.size w' fp) := by
  obtain ⟨A, n, c, rfl, hnx⟩ := hL.split
  refine Run_intro Try.func77 (by unfold CallOk; kernel_rfl) rfl Try.ntmps77 (Nat.le_of_ble_eq_true rfl) ?_
  simp only [penv, Nat.reduceAdd, Nat.zero_add]
  repeat refine zz ?_
  refine o_buildSlice rfl rfl rfl rfl rfl (by intro p hp; cases hp) (by omega) ?_
  intro b0 w1 hal
  have ho : OwnF intR w1 w.heap.size 3 (.slice (some ⟨b0, 0, none⟩) 0 0) [] [] := OwnF.made hal.blk (by have := hal.b_eq; omega)
  have hk := hal.kp
  repeat refine zz ?_
  refine o_call rfl rfl rfl (spec_FindItem_ok (hL.keep hk)) ?_
  rintro _ _ ⟨rfl, rfl⟩
  repeat refine zz ?_
  have hfl := findI_lt L id
  have hrel : fine L e = true → 0 ≤ findI L id → relL L e id (1) = pickN L (fun i => decide (cmpE e (gi L (i : Int)) (gi L (findI L id)) = 1)) L.length := fun h1 h2 => by
    rw [relL, if_pos (by simp [h1, h2])]
  have hno : (fine L e = false ∨ ¬ 0 ≤ findI L id) → relL L e id (1) = [] := fun h => by
    rw [relL, if_neg]
    rcases h with h | h <;> simp [h]
    try omega
  generalize hp : (fun i : Nat => decide (cmpE e (gi L (i : Int)) (gi L (findI L id)) = 1)) = p at hrel
  have hpi : ∀ i : Nat, p i = decide (cmpE e (gi L (i : Int)) (gi L (findI L id)) = 1) := fun i => by rw [← hp]
  refine W_loop (S := Nat × Value) (fun s => [(0, .slice A n c), (1, u), (8, .int .i64 (findI L id)), (7, s.2), (9, .int .i64 (s.1 : Int))]) (fun s w' => Keep w w' ∧ s.1 ≤ n ∧ (0 < s.1 → fine L e = true ∧ 0 ≤ findI L id) ∧ OwnF intR w' w.heap.size 3 s.2 (pickN L p s.1) []) (fun s => n - s.1) (0, _) ⟨rfl, rfl, rfl, rfl, rfl, trivial⟩ ⟨hk, Nat.zero_le _, fun h => absurd h (by simp), by unfold pickN; exact ho⟩ ?_
  clear ho hal hk
  rintro ⟨k, va⟩ wa ⟨hka, hkn, hpos, hoa⟩
  dsimp only at hkn hpos hoa ⊢
  have hpl := pickN_len L p k
  have fin0 : k = 0 → (fine L e = false ∨ ¬ 0 ≤ findI L id) → pickN L p k = relL L e id (1) := fun h1 h2 => by
    rw [hno h2, h1]; unfold pickN; rfl
  repeat refine zz ?_
  refine WL_part rfl rfl (fun hc => ?_) (fun hc => ?_)
  · have hkl : k < n := by simp at hc; omega
    repeat refine zz ?_
    refine WL_part rfl rfl (fun h2 => ?_) (fun h2 => ?_)
    · simp only [decide_eq_true_eq] at h2
      repeat refine zz ?_
      refine o_call rfl rfl rfl (l7Fine_ok (hL.keep hka) (he.keep hka) hn) ?_
      rintro _ w2 ⟨rfl, hk2⟩
      replace hka := hka.keep hk2
      replace hoa := hoa.keep hk2
      repeat refine zz ?_
      refine W_cond rfl (fun h => ?_) (fun h => ?_)
      · obtain ⟨hit, hln, hex⟩ := fine_ok h
        have hLb := hL.keep hka
        have heb := he.keep hka
        obtain ⟨hA, u1, f1, hcell1, hu1, _⟩ := item_get hLb (i := (k : Int)) (by omega) (by omega)
        obtain ⟨_, u2, f2, hcell2, hu2, _⟩ := item_get hLb (i := findI L id) (by omega) (by omega)
        have hi2 := hit (findI L id).toNat (by omega)
        rw [Int.toNat_of_nonneg h2] at hi2
        repeat refine zz ?_
        refine W_quiet (Keep w2) (by kernel_rfl) (by kernel_rfl) (Keep.drew _) ?_
        repeat refine qq ?_
        refine WQ_call rfl rfl rfl (fun w' hw' => (l5Compare_ok (heb.keep hw') (hu1.keep hw') (hu2.keep hw') hex (hit k (by omega)) hi2).kk hw') ?_
        repeat refine qq ?_
        intro wd hkd 
        replace hka := hka.keep hkd
        replace hoa := hoa.keep hkd
        replace hcell1 := hcell1.keep hkd
        rw [← hpi]
        repeat refine zz ?_
        refine W_cond rfl (fun hd => ?_) (fun hd => ?_)
        · repeat refine zz ?_
          refine o_buildSlice rfl rfl rfl rfl rfl (by simp [Value.cells]) (by omega) ?_
          intro bB wB halB
          have hzB := halB.size
          have hzK := hka.size_le
          replace hka := hka.keep halB.kp
          replace hoa := hoa.keep halB.kp
          repeat refine zz ?_
          refine o_appendF (R := intR) (M := _) (gi := []) rfl rfl rfl rfl rfl (by decide) hoa (Blk.src (xs := [(gi L (k : Int)).id]) halB.blk (Rows.ints _ _)) rfl (Fresh.nil _ _) (fun b hb => by simp at hb) (fun b hb => (hoa.lt hb).2) (fun b hb => by simp at hb) (by simp only [List.length_cons, List.length_nil]; omega) (by simp only [List.length_cons, List.length_nil]; omega) (by omega) ?_
          intro vN wN hoN hbN hgN
          have hkN : Keep w wN := hka.grown hgN (fun b hb => (hoa.lt hb).1)
          repeat refine zz ?_
          exact ⟨(k + 1, vN), ⟨rfl, rfl, rfl, rfl, rfl, trivial⟩, ⟨hkN, by dsimp only; omega, fun _ => ⟨h, h2⟩, by dsimp only; rw [pickN_t hd]; exact hoN⟩, by dsimp only; omega⟩
        · repeat refine zz ?_
          exact ⟨(k + 1, va), ⟨rfl, rfl, rfl, rfl, rfl, trivial⟩, ⟨hka, by dsimp only; omega, fun _ => ⟨h, h2⟩, by dsimp only; rw [pickN_f hd]; exact hoa⟩, by dsimp only; omega⟩
      · repeat refine zz ?_
        obtain ⟨fp, hs, hf⟩ := hoa.sl (by decide)
        refine ret1 rfl rfl ⟨hka, fp, ?_, hf⟩
        have h0 : k = 0 := by
          rcases Nat.eq_zero_or_pos k with h0 | h0
          · exact h0
          · have := (hpos h0).1; rw [h] at this; cases this
        rw [← fin0 h0 (.inl h)]; exact hs
    · simp only [decide_eq_false_iff_not] at h2
      repeat refine zz ?_
      obtain ⟨fp, hs, hf⟩ := hoa.sl (by decide)
      refine ret1 rfl rfl ⟨hka, fp, ?_, hf⟩
      have h0 : k = 0 := by
        rcases Nat.eq_zero_or_pos k with h0 | h0
        · exact h0
        · exact absurd (hpos h0).2 h2
      rw [← fin0 h0 (.inr h2)]; exact hs
  · simp at hc
    obtain rfl : k = n := by omega
    repeat refine zz ?_
    obtain ⟨fp, hs, hf⟩ := hoa.sl (by decide)
    refine ret1 rfl rfl ⟨hka, fp, ?_, hf⟩
    rcases Nat.eq_zero_or_pos k with h0 | h0
    · by_cases hb : fine L e = true ∧ 0 ≤ findI L id
      · rw [hrel hb.1 hb.2, ← hnx]; exact hs
      · rw [← fin0 h0]
        · exact hs
        · by_cases h1 : fine L e = true
          · exact .inr fun h => hb ⟨h1, h⟩
          · exact .inl (by simpa using h1)
    · rw [hrel (hpos h0).1 (hpos h0).2, ← hnx]; exact hs

set_option maxHeartbeats 1000000 in
theorem spec_DominatedBy_ok {w : World} {v u : Value} {L : List Itm} {e : List Nod} {fp gp : List Nat} (hL : Sl itemR w v L fp) (he : Sl nodeR w u e gp) (id : Int) (hn : e.length + totN e ≤ 1048576) :
    Run Try.prog 193 [v, u, .int .i64 id] w (fun r w' => Keep w w' ∧ ∃ fp, Sl intR w' r (relL L e id (-1)) fp ∧ Fresh w.heap.size w' fp) := by
  obtain ⟨A, n, c, rfl, hnx⟩ := hL.split
  refine Run_intro Try.func193 (by unfold CallOk; kernel_rfl) rfl Try.ntmps193 (Nat.le_of_ble_eq_true rfl) ?_
  simp only [penv, Nat.reduceAdd, Nat.zero_add]
  repeat refine zz ?_
  refine o_buildSlice rfl rfl rfl rfl rfl (by intro p hp; cases hp) (by omega) ?_
  intro b0 w1 hal
  have ho : OwnF intR w1 w.heap.size 3 (.slice (some ⟨b0, 0, none⟩) 0 0) [] [] := OwnF.made hal.blk (by have := hal.b_eq; omega)
  have hk := hal.kp
  repeat refine zz ?_
  refine o_call rfl rfl rfl (spec_FindItem_ok (hL.keep hk)) ?_
  rintro _ _ ⟨rfl, rfl⟩
  repeat refine zz ?_
  have hfl := findI_lt L id
  have hrel : fine L e = true → 0 ≤ findI L id → relL L e id (-1) = pickN L (fun i => decide (cmpE e (gi L (findI L id)) (gi L (i : Int)) = 1)) L.length := fun h1 h2 => by
    rw [relL, if_pos (by simp [h1, h2])]
    refine pickN_congr fun i hi => ?_
    rw [decide_eq_decide]
    exact (flip1 (fine_ok h1).2.2 _ _).symm
  have hno : (fine L e = false ∨ ¬ 0 ≤ findI L id) → relL L e id (-1) = [] := fun h => by
    rw [relL, if_neg]
    rcases h with h | h <;> simp [h]
    try omega
  generalize hp : (fun i : Nat => decide (cmpE e (gi L (findI L id)) (gi L (i : Int)) = 1)) = p at hrel
  have hpi : ∀ i : Nat, p i = decide (cmpE e (gi L (findI L id)) (gi L (i : Int)) = 1) := fun i => by rw [← hp]
  refine W_loop (S := Nat × Value) (fun s => [(0, .slice A n c), (1, u), (8, .int .i64 (findI L id)), (7, s.2), (9, .int .i64 (s.1 : Int))]) (fun s w' => Keep w w' ∧ s.1 ≤ n ∧ (0 < s.1 → fine L e = true ∧ 0 ≤ findI L id) ∧ OwnF intR w' w.heap.size 3 s.2 (pickN L p s.1) []) (fun s => n - s.1) (0, _) ⟨rfl, rfl, rfl, rfl, rfl, trivial⟩ ⟨hk, Nat.zero_le _, fun h => absurd h (by simp), by unfold pickN; exact ho⟩ ?_
  clear ho hal hk
  rintro ⟨k, va⟩ wa ⟨hka, hkn, hpos, hoa⟩
  dsimp only at hkn hpos hoa ⊢
  have hpl := pickN_len L p k
  have fin0 : k = 0 → (fine L e = false ∨ ¬ 0 ≤ findI L id) → pickN L p k = relL L e id (-1) := fun h1 h2 => by
    rw [hno h2, h1]; unfold pickN; rfl
  repeat refine zz ?_
  refine WL_part rfl rfl (fun hc => ?_) (fun hc => ?_)
  · have hkl : k < n := by simp at hc; omega
    repeat refine zz ?_
    refine WL_part rfl rfl (fun h2 => ?_) (fun h2 => ?_)
    · simp only [decide_eq_true_eq] at h2
      repeat refine zz ?_
      refine o_call rfl rfl rfl (l7Fine_ok (hL.keep hka) (he.keep hka) hn) ?_
      rintro _ w2 ⟨rfl, hk2⟩
      replace hka := hka.keep hk2
      replace hoa := hoa.keep hk2
      repeat refine zz ?_
      refine W_cond rfl (fun h => ?_) (fun h => ?_)
      · obtain ⟨hit, hln, hex⟩ := fine_ok h
        have hLb := hL.keep hka
        have heb := he.keep hka
        obtain ⟨hA, u1, f1, hcell1, hu1, _⟩ := item_get hLb (i := (k : Int)) (by omega) (by omega)
        obtain ⟨_, u2, f2, hcell2, hu2, _⟩ := item_get hLb (i := findI L id) (by omega) (by omega)
        have hi2 := hit (findI L id).toNat (by omega)
        rw [Int.toNat_of_nonneg h2] at hi2
        repeat refine zz ?_
        refine W_quiet (Keep w2) (by kernel_rfl) (by kernel_rfl) (Keep.drew _) ?_
        repeat refine qq ?_
        refine WQ_call rfl rfl rfl (fun w' hw' => (l5Compare_ok (heb.keep hw') (hu2.keep hw') (hu1.keep hw') hex hi2 (hit k (by omega))).kk hw') ?_
        repeat refine qq ?_
        intro wd hkd 
        replace hka := hka.keep hkd
        replace hoa := hoa.keep hkd
        replace hcell1 := hcell1.keep hkd
        rw [← hpi]
        repeat refine zz ?_
        refine W_cond rfl (fun hd => ?_) (fun hd => ?_)
        · repeat refine zz ?_
          refine o_buildSlice rfl rfl rfl rfl rfl (by simp [Value.cells]) (by omega) ?_
          intro bB wB halB
          have hzB := halB.size
          have hzK := hka.size_le
          replace hka := hka.keep halB.kp
          replace hoa := hoa.keep halB.kp
          repeat refine zz ?_
          refine o_appendF (R := intR) (M := _) (gi := []) rfl rfl rfl rfl rfl (by decide) hoa (Blk.src (xs := [(gi L (k : Int)).id]) halB.blk (Rows.ints _ _)) rfl (Fresh.nil _ _) (fun b hb => by simp at hb) (fun b hb => (hoa.lt hb).2) (fun b hb => by simp at hb) (by simp only [List.length_cons, List.length_nil]; omega) (by simp only [List.length_cons, List.length_nil]; omega) (by omega) ?_
          intro vN wN hoN hbN hgN
          have hkN : Keep w wN := hka.grown hgN (fun b hb => (hoa.lt hb).1)
          repeat refine zz ?_
          exact ⟨(k + 1, vN), ⟨rfl, rfl, rfl, rfl, rfl, trivial⟩, ⟨hkN, by dsimp only; omega, fun _ => ⟨h, h2⟩, by dsimp only; rw [pickN_t hd]; exact hoN⟩, by dsimp only; omega⟩
        · repeat refine zz ?_
          exact ⟨(k + 1, va), ⟨rfl, rfl, rfl, rfl, rfl, trivial⟩, ⟨hka, by dsimp only; omega, fun _ => ⟨h, h2⟩, by dsimp only; rw [pickN_f hd]; exact hoa⟩, by dsimp only; omega⟩
      · repeat refine zz ?_
        obtain ⟨fp, hs, hf⟩ := hoa.sl (by decide)
        refine ret1 rfl rfl ⟨hka, fp, ?_, hf⟩
        have h0 : k = 0 := by
          rcases Nat.eq_zero_or_pos k with h0 | h0
          · exact h0
          · have := (hpos h0).1; rw [h] at this; cases this
        rw [← fin0 h0 (.inl h)]; exact hs
    · simp only [decide_eq_false_iff_not] at h2
      repeat refine zz ?_
      obtain ⟨fp, hs, hf⟩ := hoa.sl (by decide)
      refine ret1 rfl rfl ⟨hka, fp, ?_, hf⟩
      have h0 : k = 0 := by
        rcases Nat.eq_zero_or_pos k with h0 | h0
        · exact h0
        · exact absurd (hpos h0).2 h2
      rw [← fin0 h0 (.inr h2)]; exact hs
  · simp at hc
    obtain rfl : k = n := by omega
    repeat refine zz ?_
    obtain ⟨fp, hs, hf⟩ := hoa.sl (by decide)
    refine ret1 rfl rfl ⟨hka, fp, ?_, hf⟩
    rcases Nat.eq_zero_or_pos k with h0 | h0
    · by_cases hb : fine L e = true ∧ 0 ≤ findI L id
      · rw [hrel hb.1 hb.2, ← hnx]; exact hs
      · rw [← fin0 h0]
        · exact hs
        · by_cases h1 : fine L e = true
          · exact .inr fun h => hb ⟨h1, h⟩
          · exact .inl (by simpa using h1)
    · rw [hrel (hpos h0).1 (hpos h0).2, ← hnx]; exact hs

theorem spec_RankOf_ok {w : World} {v u : Value} {L : List Itm} {e : List Nod} {fp gp : List Nat} (hL : Sl itemR w v L fp) (he : Sl nodeR w u e gp) (id : Int) (hn : e.length + totN e ≤ 1048576) :
    Run Try.prog 187 [v, u, .int .i64 id] w (fun r w' => r = .int .i64 (rankL L e id) ∧ Keep w w') := by
  refine Run_intro Try.func187 (by unfold CallOk; kernel_rfl) rfl Try.ntmps187 (Nat.le_of_ble_eq_true rfl) ?_
  simp only [penv, Nat.reduceAdd, Nat.zero_add]
  repeat refine zz ?_
  refine o_call rfl rfl rfl (l7Fine_ok hL he hn) ?_
  rintro _ w1 ⟨rfl, hk1⟩
  replace hL := hL.keep hk1
  replace he := he.keep hk1
  repeat refine zz ?_
  refine WL_part rfl rfl (fun h => ?_) (fun h => ?_)
  · simp at h
    repeat refine zz ?_
    exact ret1 rfl rfl ⟨by rw [rankL, h]; rfl, hk1⟩
  simp at h
  repeat refine zz ?_
  refine o_call rfl rfl rfl (spec_FindItem_ok hL) ?_
  rintro _ _ ⟨rfl, rfl⟩
  repeat refine zz ?_
  refine W_cond rfl (fun h2 => ?_) (fun h2 => ?_)
  · simp at h2
    repeat refine zz ?_
    exact ret1 rfl rfl ⟨by rw [rankL, if_neg (by simp; omega)], hk1⟩
  simp at h2
  repeat refine zz ?_
  refine o_call rfl rfl rfl (spec_DominatorsOf_ok hL he id hn) ?_
  rintro v3 w3 ⟨hk3, fp3, hs, hf⟩
  obtain ⟨A3, n3, c3, rfl, hn3⟩ := hs.split
  repeat refine zz ?_
  exact ret1 rfl rfl ⟨by rw [rankL, if_pos (by simp [h, h2]), hn3], hk1.keep hk3⟩

theorem impl_RankOf_ok {w : World} {v u : Value} {L : List Itm} {e : List Nod} {fp gp : List Nat} (hL : Sl itemR w v L fp) (he : Sl nodeR w u e gp) (id : Int) (hn : e.length + totN e ≤ 1048576) :
    Run Try.prog 185 [v, u, .int .i64 id] w (fun r w' => r = .int .i64 (rankL L e id) ∧ Keep w w') := by
  refine Run_intro Try.func185 (by unfold CallOk; kernel_rfl) rfl Try.ntmps185 (Nat.le_of_ble_eq_true rfl) ?_
  simp only [penv, Nat.reduceAdd, Nat.zero_add]
  repeat refine zz ?_
  refine o_call rfl rfl rfl (areBoth_ok hL he hn) ?_
  rintro _ w1 ⟨rfl, hk1⟩
  replace hL := hL.keep hk1
  replace he := he.keep hk1
  repeat refine zz ?_
  refine WL_part rfl rfl (fun h => ?_) (fun h => ?_)
  · simp at h
    repeat refine zz ?_
    exact ret1 rfl rfl ⟨by rw [rankL, h]; rfl, hk1⟩
  simp at h
  repeat refine zz ?_
  refine o_call rfl rfl rfl (impl_FindItem_ok hL) ?_
  rintro _ w2 ⟨rfl, hk2⟩
  replace hL := hL.keep hk2
  replace he := he.keep hk2
  replace hk1 := hk1.keep hk2
  repeat refine zz ?_
  refine W_cond rfl (fun h2 => ?_) (fun h2 => ?_)
  · simp at h2
    repeat refine zz ?_
    exact ret1 rfl rfl ⟨by rw [rankL, if_neg (by simp; omega)], hk1⟩
  simp at h2
  repeat refine zz ?_
  refine o_call rfl rfl rfl (impl_DominatorsOf_ok hL he id hn) ?_
  rintro v3 w3 ⟨hk3, fp3, hs, hf⟩
  obtain ⟨A3, n3, c3, rfl, hn3⟩ := hs.split
  repeat refine zz ?_
  exact ret1 rfl rfl ⟨by rw [rankL, if_pos (by simp [h, h2]), hn3], hk1.keep hk3⟩

end Go.E

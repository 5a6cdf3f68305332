/-
  Contracts: valid items, known numbers, the numbers of items. Conditions: as stated.
-/
import Derived.Test.YtnlleecmnjnphaaGreatRa
set_option linter.unusedVariables false
set_option linter.unusedSimpArgs false
namespace Go.E
open Go Go.RowKit Go.Proofs
attribute [local irreducible] W WL WD WE thenE inE retQ PureOp Keep Cell Cells Blk Sl Rows Own Src Fresh

/-- item i of a list is valid, and its number is above the one ahead of it -/
def itAt (L : List Itm) (i : Nat) : Bool := isItem (gi L (i : Int)) && (decide (i = 0) || decide ((gi L ((i : Int) - 1)).id < (gi L (i : Int)).id))
def areItems (L : List Itm) : Bool := allB L.length (itAt L) && decide (L.length ≤ 16)
def areKnown (L : List Itm) (ids : List Int) : Bool := allB ids.length fun i => decide (0 ≤ findI L (gi ids (i : Int)))
def idsOf (L : List Itm) : List Int := L.map Itm.id
theorem idsOf_len (L : List Itm) : (idsOf L).length = L.length := by simp [idsOf]

theorem spec_AreItems_ok {w : World} {v : Value} {L : List Itm} {fp : List Nat} (hx : Sl itemR w v L fp) : Run Tryz.prog 16 [v] w (fun r w' => r = .bool (areItems L) ∧ Keep w w') := by
  have hn := hx.le
  obtain ⟨A, n, c, rfl, hnx⟩ := hx.split
  refine Run_intro Tryz.func16 (by unfold CallOk; kernel_rfl) rfl Tryz.ntmps16 (Nat.le_of_ble_eq_true rfl) ?_
  simp only [penv, Nat.reduceAdd, Nat.zero_add]
  repeat refine zz ?_
  refine W_loop (S := Nat) (fun k => [(0, .slice A n c), (3, .int .i64 (k : Int))]) (fun k w' => Keep w w' ∧ k ≤ n ∧ ∀ i, i < k → itAt L i = true) (fun k => n - k) 0 ⟨rfl, rfl, trivial⟩ ⟨Keep.refl _, Nat.zero_le _, fun i hi => absurd hi (by omega)⟩ ?_
  rintro k w1 ⟨hk1, hk, hall⟩
  replace hx := hx.keep hk1
  repeat refine zz ?_
  refine W_cond rfl (fun hc => ?_) (fun hc => ?_)
  · have hkn : k < n := by simp at hc; omega
    obtain ⟨hA, u, f1, hcell, hu, _⟩ := item_get hx (i := (k : Int)) (by omega) (by omega)
    repeat refine zz ?_
    refine W_quiet (Keep w1) (by kernel_rfl) (by kernel_rfl) (Keep.drew _) ?_
    repeat refine qq ?_
    refine WQ_call rfl rfl rfl (fun w' hw' => (spec_IsItem_ok (hu.keep hw')).kk hw') ?_
    repeat refine qq ?_
    refine WQ_part rfl rfl (fun h => ?_) (fun h => ?_)
    · repeat refine qq ?_
      intro w2 hk2 
      repeat refine zz ?_
      refine ret1 rfl rfl ⟨?_, hk1.keep hk2⟩
      simp at h
      rw [areItems, allB_false (k := k) (by omega) (by simp [itAt, h]), Bool.false_and]
    · simp at h
      repeat refine qq ?_
      refine WQ_part rfl rfl (fun h2 => ?_) (fun h2 => ?_)
      · simp at h2
        obtain ⟨hA', u', f2, hcell', hu', _⟩ := item_get hx (i := (k : Int) - 1) (by omega) (by omega)
        repeat refine qq ?_
        intro w2 hk2 
        repeat refine zz ?_
        refine W_cond rfl (fun h3 => ?_) (fun h3 => ?_)
        · repeat refine zz ?_
          refine ret1 rfl rfl ⟨?_, hk1.keep hk2⟩
          simp at h3
          rw [areItems, allB_false (k := k) (by omega) (by simp [itAt, h, h3]; omega), Bool.false_and]
        · simp at h3
          repeat refine zz ?_
          exact ⟨k + 1, ⟨rfl, rfl, trivial⟩, ⟨hk1.keep hk2, by omega, all_step hall (by simp [itAt, h, h3])⟩, by omega⟩
      · simp at h2
        repeat refine qq ?_
        intro w2 hk2 
        repeat refine zz ?_
        exact ⟨k + 1, ⟨rfl, rfl, trivial⟩, ⟨hk1.keep hk2, by omega, all_step hall (by simp [itAt, h]; omega)⟩, by omega⟩
  · simp at hc
    obtain rfl : k = n := by omega
    repeat refine zz ?_
    refine ret1 rfl rfl ⟨?_, hk1⟩
    rw [areItems, allB_true (by rwa [← hnx]), Bool.true_and, ← hnx]
    congr 1
    rw [decide_eq_decide]; omega

theorem impl_AreItems_ok {w : World} {v : Value} {L : List Itm} {fp : List Nat} (hx : Sl itemR w v L fp) : Run Tryz.prog 22 [v] w (fun r w' => r = .bool (areItems L) ∧ Keep w w') := by
  have hn := hx.le
  obtain ⟨A, n, c, rfl, hnx⟩ := hx.split
  refine Run_intro Tryz.func22 (by unfold CallOk; kernel_rfl) rfl Tryz.ntmps22 (Nat.le_of_ble_eq_true rfl) ?_
  simp only [penv, Nat.reduceAdd, Nat.zero_add]
  repeat refine zz ?_
  refine W_loop (S := Nat) (fun k => [(0, .slice A n c), (5, .slice A n c), (6, .int .i64 n), (7, .int .i64 (k : Int))]) (fun k w' => Keep w w' ∧ k ≤ n ∧ ∀ i, i < k → itAt L i = true) (fun k => n - k) 0 ⟨rfl, rfl, rfl, rfl, trivial⟩ ⟨Keep.refl _, Nat.zero_le _, fun i hi => absurd hi (by omega)⟩ ?_
  rintro k w1 ⟨hk1, hk, hall⟩
  replace hx := hx.keep hk1
  repeat refine zz ?_
  refine W_cond rfl (fun hc => ?_) (fun hc => ?_)
  · have hkn : k < n := by simp at hc; omega
    obtain ⟨hA, u, f1, hcell, hu, _⟩ := item_get hx (i := (k : Int)) (by omega) (by omega)
    have hdu := hu.dom
    have hdx := hx.dom
    have hz1 := hk1.size_le
    repeat refine zz ?_
    refine o_alloc rfl rfl ?_
    intro b2 w2 hal2
    have hb2 := hal2.blk
    have hs2 := hal2.b_eq
    replace hu := hu.keep hal2.kp
    replace hx := hx.keep hal2.kp
    replace hk1 := hk1.keep hal2.kp
    repeat refine zz ?_
    refine o_storeS (b := b2) (off := 0) rfl rfl rfl rfl (fun v hv => ?_) rfl hb2 (by simp) ?_
    · simp only [List.mem_cons, List.not_mem_nil, or_false] at hv
      rcases hv with rfl | rfl
      · rfl
      · exact hu.oneCell
    intro w3 hu3
    have hb3 : Blk w3 b2 _ [.int .i64 (gi L (k : Int)).id, u] := hu3.blk
    replace hk1 := hk1.upd hu3 (by omega)
    replace hu := hu.upd hu3 (fun hm => by have := hdu _ hm; omega)
    replace hx := hx.upd hu3 (fun hm => by have := hdx _ hm; omega)
    clear hcell
    repeat refine zz ?_
    refine W_quiet (Keep w3) (by kernel_rfl) (by kernel_rfl) (Keep.drew _) ?_
    repeat refine qq ?_
    refine WQ_call rfl rfl rfl (fun w' hw' => (impl_IsItem_ok (hu.keep hw')).kk hw') ?_
    repeat refine qq ?_
    refine WQ_part rfl rfl (fun h => ?_) (fun h => ?_)
    · repeat refine qq ?_
      intro w2 hk2 
      repeat refine zz ?_
      refine ret1 rfl rfl ⟨?_, hk1.keep hk2⟩
      simp at h
      rw [areItems, allB_false (k := k) (by omega) (by simp [itAt, h]), Bool.false_and]
    · simp at h
      repeat refine qq ?_
      refine WQ_part rfl rfl (fun h2 => ?_) (fun h2 => ?_)
      · simp at h2
        obtain ⟨hA', u', f2, hcell', hu', _⟩ := item_get hx (i := (k : Int) - 1) (by omega) (by omega)
        repeat refine qq ?_
        intro w2 hk2 
        repeat refine zz ?_
        refine W_cond rfl (fun h3 => ?_) (fun h3 => ?_)
        · repeat refine zz ?_
          refine ret1 rfl rfl ⟨?_, hk1.keep hk2⟩
          simp at h3
          rw [areItems, allB_false (k := k) (by omega) (by simp [itAt, h, h3]; omega), Bool.false_and]
        · simp at h3
          repeat refine zz ?_
          exact ⟨k + 1, ⟨rfl, rfl, rfl, rfl, trivial⟩, ⟨hk1.keep hk2, by omega, all_step hall (by simp [itAt, h, h3])⟩, by omega⟩
      · simp at h2
        repeat refine qq ?_
        intro w2 hk2 
        repeat refine zz ?_
        exact ⟨k + 1, ⟨rfl, rfl, rfl, rfl, trivial⟩, ⟨hk1.keep hk2, by omega, all_step hall (by simp [itAt, h]; omega)⟩, by omega⟩
  · simp at hc
    obtain rfl : k = n := by omega
    repeat refine zz ?_
    refine ret1 rfl rfl ⟨?_, hk1⟩
    rw [areItems, allB_true (by rwa [← hnx]), Bool.true_and, ← hnx]
    congr 1
    rw [decide_eq_decide]; omega

theorem take_ids {L : List Itm} {k : Nat} (h : k < L.length) : idsOf (L.take (k + 1)) = idsOf (L.take k) ++ [(gi L (k : Int)).id] := by
  rw [take_gi h]; simp [idsOf]

theorem spec_IdsOf_ok {w : World} {v : Value} {L : List Itm} {fp : List Nat} (hx : Sl itemR w v L fp) (hn : L.length ≤ 1048576) : Run Tryz.prog 41 [v] w (fun r w' => Keep w w' ∧ ∃ fp, Sl intR w' r (idsOf L) fp ∧ Fresh w.heap.size w' fp) := by
  obtain ⟨A, n, c, rfl, hnx⟩ := hx.split
  refine Run_intro Tryz.func41 (by unfold CallOk; kernel_rfl) rfl Tryz.ntmps41 (Nat.le_of_ble_eq_true rfl) ?_
  simp only [penv, Nat.reduceAdd, Nat.zero_add]
  repeat refine zz ?_
  refine o_buildSlice rfl rfl rfl rfl rfl (by intro p hp; cases hp) (by omega) ?_
  intro b0 w1 hal
  have hk1 := hal.kp
  have ho1 : OwnF intR w1 w.heap.size 3 (.slice (some ⟨b0, 0, none⟩) 0 0) [] [] := OwnF.made hal.blk (by have := hal.b_eq; omega)
  repeat refine zz ?_
  refine W_loop (S := Nat × Value) (fun s => [(0, .slice A n c), (3, s.2), (4, .int .i64 (s.1 : Int))]) (fun s w' => Keep w w' ∧ s.1 ≤ n ∧ OwnF intR w' w.heap.size 3 s.2 (idsOf (L.take s.1)) []) (fun s => n - s.1) (0, _) ⟨rfl, rfl, rfl, trivial⟩ ⟨hk1, by omega, by simpa [idsOf] using ho1⟩ ?_
  rintro ⟨k, va⟩ wa ⟨hka, hk, hoa⟩
  dsimp only at hk hoa ⊢
  replace hx := hx.keep hka
  repeat refine zz ?_
  refine W_cond rfl (fun hc => ?_) (fun hc => ?_)
  · have hkn : k < n := by simp at hc; omega
    obtain ⟨hA, u, f1, hcell, hu, _⟩ := item_get hx (i := (k : Int)) (by omega) (by omega)
    have hl : (idsOf (L.take k)).length ≤ 1048576 := by rw [idsOf_len, List.length_take]; omega
    repeat refine zz ?_
    refine o_buildSlice rfl rfl rfl rfl rfl (by simp [Value.cells]) (by omega) ?_
    intro b2 w2 hal2
    have hkb : Keep w w2 := hka.keep hal2.kp
    have hsz := hka.size_le
    have hsz2 := hal2.size
    have hob := hoa.keep hal2.kp
    repeat refine zz ?_
    refine o_appendF (R := intR) (M := wa.heap.size) (gi := []) rfl rfl rfl rfl rfl (by decide) hob (Blk.src (xs := [(gi L (k : Int)).id]) hal2.blk (Rows.ints _ _)) rfl (Fresh.nil _ _) (fun b hb => by simp at hb) (fun b hb => (hoa.lt hb).2) (fun b hb => by simp at hb) (by simp only [List.length_cons, List.length_nil]; omega) (by simp only [List.length_cons, List.length_nil]; omega) (by omega) ?_
    intro v3 w3 ho3 hb3 hg3
    have hk3 := hkb.below hb3 (Nat.le_refl _)
    repeat refine zz ?_
    exact ⟨(k + 1, v3), ⟨rfl, rfl, rfl, trivial⟩, ⟨hk3, by dsimp only; omega, by dsimp only; rw [take_ids (by omega)]; exact ho3⟩, by dsimp only; omega⟩
  · simp at hc
    obtain rfl : k = n := by omega
    rw [List.take_of_length_le (show L.length ≤ k by omega)] at hoa
    repeat refine zz ?_
    obtain ⟨fp, hs, hf⟩ := hoa.sl (by decide)
    exact ret1 rfl rfl ⟨hka, fp, hs, hf⟩

theorem impl_IdsOf_ok {w : World} {v : Value} {L : List Itm} {fp : List Nat} (hx : Sl itemR w v L fp) (hn : L.length ≤ 1048576) : Run Tryz.prog 37 [v] w (fun r w' => Keep w w' ∧ ∃ fp, Sl intR w' r (idsOf L) fp ∧ Fresh w.heap.size w' fp) := by
  obtain ⟨A, n, c, rfl, hnx⟩ := hx.split
  refine Run_intro Tryz.func37 (by unfold CallOk; kernel_rfl) rfl Tryz.ntmps37 (Nat.le_of_ble_eq_true rfl) ?_
  simp only [penv, Nat.reduceAdd, Nat.zero_add]
  repeat refine zz ?_
  refine o_buildSlice rfl rfl rfl rfl rfl (by intro p hp; cases hp) (by omega) ?_
  intro b0 w1 hal
  have hk1 := hal.kp
  have ho1 : OwnF intR w1 w.heap.size 3 (.slice (some ⟨b0, 0, none⟩) 0 0) [] [] := OwnF.made hal.blk (by have := hal.b_eq; omega)
  repeat refine zz ?_
  refine W_loop (S := Nat × Value) (fun s => [(0, .slice A n c), (3, s.2), (7, .slice A n c), (8, .int .i64 n), (9, .int .i64 (s.1 : Int))]) (fun s w' => Keep w w' ∧ s.1 ≤ n ∧ OwnF intR w' w.heap.size 3 s.2 (idsOf (L.take s.1)) []) (fun s => n - s.1) (0, _) ⟨rfl, rfl, rfl, rfl, rfl, trivial⟩ ⟨hk1, by omega, by simpa [idsOf] using ho1⟩ ?_
  rintro ⟨k, va⟩ wa ⟨hka, hk, hoa⟩
  dsimp only at hk hoa ⊢
  replace hx := hx.keep hka
  repeat refine zz ?_
  refine W_cond rfl (fun hc => ?_) (fun hc => ?_)
  · have hkn : k < n := by simp at hc; omega
    obtain ⟨hA, u, f1, hcell, hu, _⟩ := item_get hx (i := (k : Int)) (by omega) (by omega)
    have hl : (idsOf (L.take k)).length ≤ 1048576 := by rw [idsOf_len, List.length_take]; omega
    repeat refine zz ?_
    refine o_alloc rfl rfl ?_
    intro b2 w2 hal2
    have hb2 := hal2.blk
    have hs2 := hal2.b_eq
    have hz2 := hal2.size
    have hsz := hka.size_le
    have hoa0 := hoa
    replace hka := hka.keep hal2.kp
    replace hoa := hoa.keep hal2.kp
    repeat refine zz ?_
    refine o_storeS (b := b2) (off := 0) rfl rfl rfl rfl (fun v hv => ?_) rfl hb2 (by simp) ?_
    · simp only [List.mem_cons, List.not_mem_nil, or_false] at hv
      rcases hv with rfl | rfl
      · rfl
      · exact hu.oneCell
    intro w3 hu3
    have hb3 : Blk w3 b2 _ [.int .i64 (gi L (k : Int)).id, u] := hu3.blk
    have hz3 := hu3.size
    replace hka := hka.upd hu3 (by omega)
    replace hoa := hoa.upd hu3 (fun e => by have := (hoa0.lt e).2; omega) (fun hm => by simp at hm)
    repeat refine zz ?_
    refine o_buildSlice rfl rfl rfl rfl rfl (by simp [Value.cells]) (by omega) ?_
    intro b4 w4 hal4
    have hkb : Keep w w4 := hka.keep hal4.kp
    have hsz4 := hal4.size
    have hob := hoa.keep hal4.kp
    repeat refine zz ?_
    refine o_appendF (R := intR) (M := w3.heap.size) (gi := []) rfl rfl rfl rfl rfl (by decide) hob (Blk.src (xs := [(gi L (k : Int)).id]) hal4.blk (Rows.ints _ _)) rfl (Fresh.nil _ _) (fun b hb => by simp at hb) (fun b hb => (hoa.lt hb).2) (fun b hb => by simp at hb) (by simp only [List.length_cons, List.length_nil]; omega) (by simp only [List.length_cons, List.length_nil]; omega) (by omega) ?_
    intro v5 w5 ho5 hb5 hg5
    have hk5 := hkb.below hb5 (Nat.le_refl _)
    repeat refine zz ?_
    exact ⟨(k + 1, v5), ⟨rfl, rfl, rfl, rfl, rfl, trivial⟩, ⟨hk5, by dsimp only; omega, by dsimp only; rw [take_ids (by omega)]; exact ho5⟩, by dsimp only; omega⟩
  · simp at hc
    obtain rfl : k = n := by omega
    rw [List.take_of_length_le (show L.length ≤ k by omega)] at hoa
    repeat refine zz ?_
    obtain ⟨fp, hs, hf⟩ := hoa.sl (by decide)
    exact ret1 rfl rfl ⟨hka, fp, hs, hf⟩
end Go.E

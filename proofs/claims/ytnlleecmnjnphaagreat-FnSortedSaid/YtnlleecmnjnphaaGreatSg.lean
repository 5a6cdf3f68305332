/-
  Contracts: the items' numbers in the order of a field. Conditions: as stated.
-/
import Derived.Test.YtnlleecmnjnphaaGreatSf
import Derived.Test.YtnlleecmnjnphaaGreatAg
set_option linter.unusedVariables false
set_option linter.unusedSimpArgs false
namespace Go.E
open Go Go.RowKit Go.Proofs
def sortedIds (L : List Itm) (field : Int) : List Int := if areItems L && inR field 0 2 then idsOf (sortP (fval field) L) else []
theorem sortedIds_len (L : List Itm) (field : Int) : (sortedIds L field).length ≤ 16 := by
  unfold sortedIds
  split
  · rename_i h
    simp only [Bool.and_eq_true] at h
    rw [idsOf_len, sortP_len]; exact (areItems_each h.1).2
  · simp
theorem inR_iff {x lo hi : Int} : inR x lo hi = true ↔ lo ≤ x ∧ x ≤ hi := by simp [inR]
theorem ids_order (L : List Itm) (v : Itm → Int) : (sortP (fun i => v (gi L i)) (iota 0 L.length)).map (fun i => (gi L i).id) = idsOf (sortP v L) := by
  rw [idsOf, ← order_items, List.map_map]; rfl
attribute [local irreducible] W WL WD WE thenE inE retQ PureOp Keep Cell Cells Blk Sl Rows Own Src Fresh
attribute [local irreducible] areItems sortP

set_option maxHeartbeats 1000000 in
theorem spec_SortByField_ok {w : World} {v : Value} {L : List Itm} {fp : List Nat} (hL : Sl itemR w v L fp) (field : Int) :
    Run Tryz.prog 20 [v, .int .i64 field] w (fun r w' => Keep w w' ∧ ∃ f, Sl intR w' r (sortedIds L field) f ∧ Fresh w.heap.size w' f) := by
  have hdL := hL.dom
  obtain ⟨A, n, c, rfl, hnx⟩ := hL.split
  refine Run_intro Tryz.func20 (by unfold CallOk; kernel_rfl) rfl Tryz.ntmps20 (Nat.le_of_ble_eq_true rfl) ?_
  simp only [penv, Nat.reduceAdd, Nat.zero_add]
  repeat refine zz ?_
  refine o_buildSlice rfl rfl rfl rfl rfl (by intro p hp; cases hp) (by omega) ?_
  intro bO wO halO
  have hkO := halO.kp
  have ho : OwnF intR wO w.heap.size 3 (.slice (some ⟨bO, 0, none⟩) 0 0) [] [] := OwnF.made halO.blk (by have := halO.b_eq; omega)
  have hk := hkO
  replace hL := hL.keep hkO
  repeat refine zz ?_
  refine o_call rfl rfl rfl (spec_AreItems_ok hL) ?_
  rintro _ w2 ⟨rfl, hk2⟩
  replace hL := hL.keep hk2
  replace hk := hk.keep hk2
  replace ho := ho.keep hk2
  repeat refine zz ?_
  refine WL_part rfl rfl (fun h1 => ?_) (fun h1 => ?_)
  · simp at h1
    repeat refine zz ?_
    obtain ⟨f, hs, hf⟩ := ho.sl (by decide)
    exact ret1 rfl rfl ⟨hk, f, by rw [sortedIds, h1]; exact hs, hf⟩
  simp at h1
  repeat refine zz ?_
  refine o_call rfl rfl rfl (l1In_ok _ _ _ _) ?_
  rintro _ _ ⟨rfl, rfl⟩
  repeat refine zz ?_
  refine W_cond rfl (fun h2 => ?_) (fun h2 => ?_)
  · simp at h2
    repeat refine zz ?_
    obtain ⟨f, hs, hf⟩ := ho.sl (by decide)
    exact ret1 rfl rfl ⟨hk, f, by rw [sortedIds, h1, h2]; exact hs, hf⟩
  simp at h2
  obtain ⟨hit, hln⟩ := areItems_each h1
  have hfr := inR_iff.1 h2
  repeat refine zz ?_
  refine o_call rfl rfl rfl (l9Order_ok hL hln (fun i hi => isItem_len (hit i hi)) hfr) ?_
  rintro v3 w3 ⟨hk3, f3, hs3, hf3⟩
  have hdo := fun b hb => (ho.lt (b := b) hb).2
  replace hL := hL.keep hk3
  replace hk := hk.keep hk3
  replace ho := ho.keep hk3
  obtain ⟨os, hos⟩ : ∃ os, os = sortP (fun i => fval field (gi L i)) (iota 0 L.length) := ⟨_, rfl⟩
  rw [← hos] at hs3
  have hol : os.length = L.length := by rw [hos, sortP_len, iota_len]
  have hor : ∀ k : Nat, k < os.length → 0 ≤ gi os (k : Int) ∧ gi os (k : Int) < L.length := fun k hk => by
    have hm : gi os (k : Int) ∈ sortP (fun i => fval field (gi L i)) (iota 0 L.length) := by rw [← hos]; exact gi_mem hk
    have hm2 := ((sortP_perm _ _).mem_iff).1 hm
    simp [iota] at hm2
    obtain ⟨a, ha, hae⟩ := hm2
    omega
  obtain ⟨A3, n3, c3, rfl, hn3⟩ := hs3.split
  repeat refine zz ?_
  refine W_loop (S := Nat × Value) (fun s => [(0, .slice A n c), (5, s.2), (6, .slice A3 n3 c3), (7, .int .i64 (s.1 : Int))]) (fun s w' => Keep w w' ∧ (Sl itemR w' (.slice A n c) L fp ∧ Sl intR w' (.slice A3 n3 c3) os f3 ∧ ∀ b, s.2.ownBlock = some b → b ∉ f3) ∧ s.1 ≤ n3 ∧ OwnF intR w' w.heap.size 3 s.2 ((os.take s.1).map fun i => (gi L i).id) []) (fun s => n3 - s.1) (0, _) ⟨rfl, rfl, rfl, rfl, trivial⟩ ⟨hk, ⟨hL, hs3, fun b hb hm => by have := hf3.ge hm; have := hdo b hb; omega⟩, Nat.zero_le _, ho⟩ ?_
  clear ho hk hs3 hL
  rintro ⟨k, va⟩ wa ⟨hka, ⟨hL, hs3, hsep⟩, hkn, hoa⟩
  dsimp only at hkn hoa hsep ⊢
  have hol2 : ((os.take k).map fun i => (gi L i).id).length ≤ 16 := by rw [List.length_map, List.length_take]; omega
  repeat refine zz ?_
  refine W_cond rfl (fun hc => ?_) (fun hc => ?_)
  · have hkl : k < n3 := by simp at hc; omega
    have hg := hor k (by omega)
    obtain ⟨hA3, hc3⟩ := hs3.getI (i := (k : Int)) (by omega) (by omega)
    obtain ⟨hA, u1, f1, hcell1, hu1, _⟩ := item_get hL (i := gi os (k : Int)) (by omega) (by omega)
    repeat refine zz ?_
    refine o_buildSlice rfl rfl rfl rfl rfl (by simp [Value.cells]) (by omega) ?_
    intro b5 w5 hal5
    have hz5 := hal5.size
    have hkz := hka.size_le
    replace hoa := hoa.keep hal5.kp
    replace hka := hka.keep hal5.kp
    replace hL := hL.keep hal5.kp
    replace hs3 := hs3.keep hal5.kp
    repeat refine zz ?_
    refine o_appendG (R := intR) (M := _) (gi := []) rfl rfl rfl rfl rfl (by decide) hoa (Blk.src (xs := [(gi L (gi os (k : Int))).id]) hal5.blk (Rows.ints _ _)) rfl (Fresh.nil _ _) (fun b hb => by simp at hb) (fun b hb => (hoa.lt hb).2) (fun b hb => by simp at hb) (by simp only [List.length_cons, List.length_nil]; omega) (by simp only [List.length_cons, List.length_nil]; omega) (by omega) ?_
    intro v6 w6 ho6 hb6 hg6 hv6
    have hk6 : Keep w w6 := hka.grown hg6 (fun b hb => (hoa.lt hb).1)
    have hL6 := hL.grownN hg6 (fun b hb hm => by have := (hoa.lt hb).1; have := hdL b hm; omega)
    have hs6 := hs3.grownN hg6 hsep
    have hsep6 := out_next hs3 hsep hv6
    repeat refine zz ?_
    exact ⟨(k + 1, v6), ⟨rfl, rfl, rfl, rfl, trivial⟩, ⟨hk6, ⟨hL6, hs6, hsep6⟩, by dsimp only; omega, by dsimp only; rw [take_gi (by omega), List.map_append]; exact ho6⟩, by dsimp only; omega⟩
  · simp at hc
    obtain rfl : k = n3 := by omega
    rw [List.take_of_length_le (by omega), hos, ids_order] at hoa
    repeat refine zz ?_
    obtain ⟨f, hs, hf⟩ := hoa.sl (by decide)
    exact ret1 rfl rfl ⟨hka, f, by rw [sortedIds, h1, h2]; exact hs, hf⟩

set_option maxHeartbeats 1000000 in
theorem impl_SortByField_ok {w : World} {v : Value} {L : List Itm} {fp : List Nat} (hL : Sl itemR w v L fp) (field : Int) :
    Run Tryz.prog 19 [v, .int .i64 field] w (fun r w' => Keep w w' ∧ ∃ f, Sl intR w' r (sortedIds L field) f ∧ Fresh w.heap.size w' f) := by
  refine Run_intro Tryz.func19 (by unfold CallOk; kernel_rfl) rfl Tryz.ntmps19 (Nat.le_of_ble_eq_true rfl) ?_
  simp only [penv, Nat.reduceAdd, Nat.zero_add]
  repeat refine zz ?_
  refine o_call rfl rfl rfl (impl_AreItems_ok hL) ?_
  rintro _ w2 ⟨rfl, hk⟩
  replace hL := hL.keep hk
  repeat refine zz ?_
  refine WL_part rfl rfl (fun h1 => ?_) (fun h1 => ?_)
  · simp at h1
    repeat refine zz ?_
    refine o_buildSlice rfl rfl rfl rfl rfl (by intro p hp; cases hp) (by omega) ?_
    intro bO wO halO
    have hkO := halO.kp
    have ho : OwnF intR wO w.heap.size 3 (.slice (some ⟨bO, 0, none⟩) 0 0) [] [] := OwnF.made halO.blk (by have := halO.b_eq; have := hk.size_le; omega)
    repeat refine zz ?_
    obtain ⟨f, hs, hf⟩ := ho.sl (by decide)
    exact ret1 rfl rfl ⟨hk.keep hkO, f, by rw [sortedIds, h1]; exact hs, hf⟩
  simp at h1
  repeat refine zz ?_
  refine o_call rfl rfl rfl (within_ok _ _ _ _) ?_
  rintro _ _ ⟨rfl, rfl⟩
  repeat refine zz ?_
  refine W_cond rfl (fun h2 => ?_) (fun h2 => ?_)
  · simp at h2
    repeat refine zz ?_
    refine o_buildSlice rfl rfl rfl rfl rfl (by intro p hp; cases hp) (by omega) ?_
    intro bO wO halO
    have hkO := halO.kp
    have ho : OwnF intR wO w.heap.size 3 (.slice (some ⟨bO, 0, none⟩) 0 0) [] [] := OwnF.made halO.blk (by have := halO.b_eq; have := hk.size_le; omega)
    repeat refine zz ?_
    obtain ⟨f, hs, hf⟩ := ho.sl (by decide)
    exact ret1 rfl rfl ⟨hk.keep hkO, f, by rw [sortedIds, h1, h2]; exact hs, hf⟩
  simp at h2
  obtain ⟨hit, hln⟩ := areItems_each h1
  have hfr := inR_iff.1 h2
  repeat refine zz ?_
  refine o_call rfl rfl rfl (byField_ok hL hit hln hfr) ?_
  rintro v3 w3 ⟨hk3, f3, hs3, hf3⟩
  repeat refine zz ?_
  refine o_call rfl rfl rfl (impl_IdsOf_ok hs3 (by rw [sortP_len]; omega)) ?_
  rintro v4 w4 ⟨hk4, f4, hs4, hf4⟩
  repeat refine zz ?_
  exact ret1 rfl rfl ⟨(hk.keep hk3).keep hk4, f4, by rw [sortedIds, h1, h2]; exact hs4, hf4.mono (by have := hk.size_le; have := hk3.size_le; omega)⟩
end Go.E

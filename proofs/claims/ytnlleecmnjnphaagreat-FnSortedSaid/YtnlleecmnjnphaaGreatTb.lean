/-
  Contract: the items found by boxes, by the reference. Conditions: as stated.
-/
import Derived.Test.YtnlleecmnjnphaaGreatGt
set_option linter.unusedVariables false
set_option linter.unusedSimpArgs false
namespace Go.E
open Go Go.RowKit Go.Proofs
attribute [local irreducible] W WL WD WE thenE inE retQ PureOp Keep Cell Cells Blk Sl Rows Own Src Fresh
attribute [local irreducible] boxP isFieldList areItems

set_option maxHeartbeats 2000000 in
theorem spec_BoxBest_ok {w : World} {v u : Value} {L : List Itm} {f : List Int} {fp gp : List Nat} (hL : Sl itemR w v L fp) (hf : Sl intR w u f gp) :
    Run Tryz.prog 9 [v, u] w (fun r w' => Keep w w' ∧ ∃ x h, r = .tuple #[x, .int .i64 (boxBest L f).2] ∧ Sl intR w' x (boxBest L f).1 h ∧ Fresh w.heap.size w' h) := by
  have oL := hL.oneCell
  have of := hf.oneCell
  refine Run_intro Tryz.func9 (by unfold CallOk; kernel_rfl) rfl Tryz.ntmps9 (Nat.le_of_ble_eq_true rfl) ?_
  simp only [penv, Nat.reduceAdd, Nat.zero_add]
  repeat refine zz ?_
  refine o_call rfl rfl rfl (spec_AreItems_ok hL) ?_
  rintro _ w1 ⟨rfl, hk⟩
  replace hL := hL.keep hk
  replace hf := hf.keep hk
  repeat refine zz ?_
  refine WL_part rfl rfl (fun h1 => ?_) (fun h1 => ?_)
  · simp at h1
    have hsb : boxBest L f = ([], 0) := by unfold boxBest; rw [h1]; rfl
    repeat refine zz ?_
    refine o_buildSlice rfl rfl rfl rfl rfl (by intro p hp; cases hp) (by omega) ?_
    intro bO wO halO
    have hkO := halO.kp
    have ho : OwnF intR wO w.heap.size 3 (.slice (some ⟨bO, 0, none⟩) 0 0) [] [] := OwnF.made halO.blk (by have := halO.b_eq; have := hk.size_le; omega)
    obtain ⟨fO, hsO, hfO⟩ := ho.sl (by decide)
    repeat refine zz ?_
    exact ret2 rfl rfl rfl ⟨hk.keep hkO, _, fO, by rw [hsb], by rw [hsb]; exact hsO, hfO⟩
  simp at h1
  repeat refine zz ?_
  refine o_call rfl rfl rfl (spec_IsFieldList_ok hf) ?_
  rintro _ w2 ⟨rfl, k2⟩
  replace hL := hL.keep k2
  replace hf := hf.keep k2
  replace hk := hk.keep k2
  repeat refine zz ?_
  refine W_cond rfl (fun h2 => ?_) (fun h2 => ?_)
  · simp at h2
    have hsb : boxBest L f = ([], 0) := by unfold boxBest; rw [h2, Bool.and_false]; rfl
    repeat refine zz ?_
    refine o_buildSlice rfl rfl rfl rfl rfl (by intro p hp; cases hp) (by omega) ?_
    intro bO wO halO
    have hkO := halO.kp
    have ho : OwnF intR wO w.heap.size 3 (.slice (some ⟨bO, 0, none⟩) 0 0) [] [] := OwnF.made halO.blk (by have := halO.b_eq; have := hk.size_le; omega)
    obtain ⟨fO, hsO, hfO⟩ := ho.sl (by decide)
    repeat refine zz ?_
    exact ret2 rfl rfl rfl ⟨hk.keep hkO, _, fO, by rw [hsb], by rw [hsb]; exact hsO, hfO⟩
  simp at h2
  have hsb : boxBest L f = (sortP id (idsOf (boxP f L.length L 0 ([], 0)).1), ((boxP f L.length L 0 ([], 0)).2 : Int)) := by unfold boxBest; rw [h1, h2]; rfl
  rw [hsb]
  obtain ⟨hit, hl16⟩ := areItems_at h1
  have hiM : ∀ x, x ∈ L → isItem x = true := fun x hx => by
    obtain ⟨i, hi, rfl⟩ := List.getElem_of_mem hx
    have := hit i hi
    rwa [gi_lt hi] at this
  repeat refine zz ?_
  refine o_buildSlice rfl rfl rfl rfl rfl (by intro p hp; cases hp) (by omega) ?_
  intro bO wO halO
  have hkO := halO.kp
  replace hk := hk.keep hkO
  replace hL := hL.keep hkO
  replace hf := hf.keep hkO
  have hF0 : Sl itemR wO (.slice (some ⟨bO, 0, none⟩) 0 0) ([] : List Itm) [] := Sl.nil (by omega) _
  have zO := hk.size_le
  repeat refine zz ?_
  refine o_call rfl rfl rfl (l9Box_ok h2 L.length (d := 0) (n := 0) hL hf hF0 (Nat.le_refl _) hl16 (by simp only [List.length_nil]; omega) (by omega) (by omega) hiM (fun x hx => by cases hx)) ?_
  rintro _ w3 ⟨k3, x, h, rfl, hx⟩
  have hbd := boxP_bd f L.length L 0 ([], 0)
  simp only [List.length_nil] at hbd
  generalize boxP f L.length L 0 ([], 0) = S at *
  repeat refine zz ?_
  refine o_call rfl rfl rfl (spec_IdsOf_ok hx (by omega)) ?_
  rintro vi w4 ⟨k4, fi, hi, _⟩
  repeat refine zz ?_
  refine o_call rfl rfl rfl (l8Sort_ok hi (by rw [idsOf_len]; omega)) ?_
  rintro vs w5 ⟨k5, fs, hs, hfs⟩
  have z3 := k3.size_le
  have z4 := k4.size_le
  repeat refine zz ?_
  exact ret2 rfl rfl rfl ⟨((hk.keep k3).keep k4).keep k5, _, fs, rfl, hs, hfs.mono (by omega)⟩
end Go.E

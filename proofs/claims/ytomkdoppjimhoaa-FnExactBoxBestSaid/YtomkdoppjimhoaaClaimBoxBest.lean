/-
  The statement of 'FnExactBoxBest', proved: for every input the law returns true, and each argument reads as it did. Conditions: none.
-/
import Derived.Test.YtomkdoppjimhoaaRows
import Derived.Test.YtomkdoppjimhoaaLawBoxBest
import Derived.Test.YtomkdoppjimhoaaOpen
import Derived.WalkKit
import Derived.ProofKit
import Derived.OpenShut
import Derived.ChangeOld
import Derived.Below
set_option linter.unusedVariables false
namespace Go.Proofs.Ytomkdoppjimhoaa
open Go.E Go.ChangeShapes Go.WideShapes Go.ChangeAt Go.RowKit
theorem own : ownKnob Try.prog.godebug = none := by kernel_rfl
theorem laidOut : laidOutB Try.prog = true := by kernel_rfl
set_option maxRecDepth 100000 in
theorem lifted (os : Os) (started : os.Started) (H : Type) (enc : TypeId × Value → H) :
    ReturnsInHanded {} Try.checked os 7 .any (Rows.fnExactBoxBestSpec.pre6 enc Try.prog Try.f7 Rows.fnExactBoxBestRow.domain false) (Rows.fnExactBoxBestSpec.post enc Try.prog Try.f7 false true false false) := by
  refine returnsInHanded_of_change (C := Try.checked) own started (by kernel_rfl) Try.func7
    (ChangeSpec.witness6 (enc := enc) (C := Try.checked) false ⟨#[], #[.slice none 0 0, .slice none 0 0], []⟩ 8 (by kernel_rfl) (by kernel_rfl) (by kernel_rfl) (by kernel_rfl)) ?_
  intro W base args ds gs before hval0 hW hcnd _
  have hval : ∀ (j : Nat) t v, Try.f7.params[j]? = some t → args[j]? = some v → Value.okWide Try.prog W .any base t v := hval0
  have hW' := hW
  obtain ⟨p, q, hA0, hV, rfl, hfz, hnd⟩ := hW
  have hA : DataW.TrodAll enc Try.prog W 0 (fun _ => true) true Try.f7.params.toList args.toList ds p := hA0
  rw [Try.params7] at hA hval
  obtain ⟨v0, vs0, d0, ds0, p0, q0, hargs, rfl, rfl, h0, r0⟩ := trodAll_cons hA
  obtain ⟨v1, vs1, d1, ds1, p1, q1, rfl, rfl, rfl, h1, r1⟩ := trodAll_cons r0
  obtain ⟨rfl, rfl, rfl⟩ := trodAll_nil r1
  obtain rfl : args = #[v0, v1] := by cases args; simp_all
  obtain ⟨rfl, rfl⟩ := trodVars_none hV
  obtain ⟨a0, len0, cap0, rfl⟩ := okWide_slice Try.underlying52 (hval 0 52 v0 rfl rfl)
  have k0 := h0
  have lt0 : ∀ x ∈ p0, x.block < W.heap.size := by obtain ⟨m, hm⟩ := k0; exact DataW.trod_lt m _ _ _ hm
  obtain ⟨y0, fp0, x0⟩ : ∃ y fp, Sl itemR W (.slice a0 len0 cap0) y fp := by
    obtain ⟨fuel, hf⟩ := h0
    obtain ⟨y, fp, u, hu, hs⟩ := (opens_slice inferInstance inferInstance (by decide) (opens_item inferInstance inferInstance inferInstance inferInstance (opens_slice inferInstance inferInstance (by decide) (opens_int inferInstance)))) H enc W _ _ _ fuel _ _ hf
    simp [Value.cells] at hu
    subst hu
    exact ⟨y, fp, hs⟩
  obtain ⟨a1, len1, cap1, rfl⟩ := okWide_slice Try.underlying53 (hval 1 53 v1 rfl rfl)
  have k1 := h1
  have lt1 : ∀ x ∈ p1, x.block < W.heap.size := by obtain ⟨m, hm⟩ := k1; exact DataW.trod_lt m _ _ _ hm
  obtain ⟨y1, fp1, x1⟩ : ∃ y fp, Sl intR W (.slice a1 len1 cap1) y fp := by
    obtain ⟨fuel, hf⟩ := h1
    obtain ⟨y, fp, u, hu, hs⟩ := (opens_slice inferInstance inferInstance (by decide) (opens_int inferInstance)) H enc W _ _ _ fuel _ _ hf
    simp [Value.cells] at hu
    subst hu
    exact ⟨y, fp, hs⟩
  clear hA0 hval0
  refine Calls.mono (law_BoxBest x0 x1).calls fun e W' h => ?_
  obtain ⟨_, rfl, rfl, bel0⟩ := h
  have bel : Below W.heap.size W W' := bel0
  exact ⟨_, rfl, _, _, _, [], _, [], hW', trodAll_mk1 (shut_bool Try.underlying4 _), (trodAll_cons_mk (Below.trod laidOut (by kernel_rfl) (of_decide_eq_true (by kernel_rfl)) k0 bel lt0) (trodAll_cons_mk (Below.trod laidOut (by kernel_rfl) (of_decide_eq_true (by kernel_rfl)) k1 bel lt1) trodAll_mk0)), rfl, bel.frame _, fun h => by cases h⟩
theorem over : Rows.fnExactBoxBestRow.holds Try.pinned (OpenSpec.ofChange Rows.fnExactBoxBestSpec) :=
  OpenClaim.holds_of_wide 7 Try.f7 rfl rfl rfl rfl rfl rfl rfl ⟨rfl, rfl, rfl, rfl, rfl⟩ rfl rfl rfl rfl rfl (by kernel_rfl) Try.func7 (by kernel_rfl)
    (of_decide_eq_true (by kernel_rfl)) (by unfold Func.isWrapper; first | (rw [if_pos (by decide +kernel)]; kernel_rfl) | (rw [if_neg (by decide +kernel)]; exact ⟨rfl, rfl⟩))
    (fun os started H enc _ => lifted os started H enc)
theorem FnExactBoxBest_proved : Rows.FnExactBoxBestSaid := over
end Go.Proofs.Ytomkdoppjimhoaa

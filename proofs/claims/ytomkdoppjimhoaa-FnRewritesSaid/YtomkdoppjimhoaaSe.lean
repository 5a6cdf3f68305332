/-
  Contract: rewriting at a place, by the program. Conditions: as stated.
-/
import Derived.Test.YtomkdoppjimhoaaSd
set_option linter.unusedVariables false
set_option linter.unusedSimpArgs false
namespace Go.E
open Go Go.RowKit Go.Proofs
attribute [local irreducible] W WL WD WE thenE inE retQ PureOp Keep Cell Cells Blk Sl Rows Own Src Fresh
attribute [local irreducible] isExpr applyR partR putR seg st hitR

set_option maxHeartbeats 2000000 in
theorem impl_ApplyRule_ok {w : World} {v : Value} {E : List Nod} {fp : List Nat} (hx : Sl nodeR w v E fp) (hn : E.length + totN E ≤ 1048576) (rule at_ : Int) :
    Run Try.prog 22 [v, .int .i64 rule, .int .i64 at_] w (fun r w' => Keep w w' ∧ ∃ u fi, r = .tuple #[u, .bool (applyR E rule at_).isSome] ∧ OwnF nodeR w' w.heap.size 74 u ((applyR E rule at_).getD E) fi) := by
  obtain ⟨A, n, c, rfl, hnx⟩ := hx.split
  refine Run_intro Try.func22 (by unfold CallOk; kernel_rfl) rfl Try.ntmps22 (Nat.le_of_ble_eq_true rfl) ?_
  simp only [penv, Nat.reduceAdd, Nat.zero_add]
  repeat refine zz ?_
  refine o_call rfl rfl rfl (impl_IsExpression_ok hx (by omega)) ?_
  rintro _ w1 ⟨rfl, hk⟩
  repeat refine zz ?_
  refine WL_part rfl rfl (fun h1 => ?_) (fun h1 => ?_)
  · simp at h1
    repeat refine zz ?_
    have hoff : applyR E rule at_ = none := ap_off (by unfold placeB; first | (rw [h1]; rfl) | (rw [h2]; simp))
    rw [hoff]
    repeat refine zz ?_
    refine o_call rfl rfl rfl (copyNodes_own (hx.keep hk) hn) ?_
    rintro vc wc ⟨kc, fc, hoc⟩
    repeat refine zz ?_
    exact ret2 rfl rfl rfl ⟨hk.keep kc, _, fc, rfl, hoc.low (by have := hk.size_le; omega)⟩
  simp at h1
  repeat refine zz ?_
  refine o_call rfl rfl rfl (within_ok at_ 0 ((n : Int) - 1) _) ?_
  rintro _ _ ⟨rfl, rfl⟩
  repeat refine zz ?_
  refine W_cond rfl (fun h2 => ?_) (fun h2 => ?_)
  · simp at h2
    rw [hnx] at h2
    have hoff : applyR E rule at_ = none := ap_off (by unfold placeB; first | (rw [h1]; rfl) | (rw [h2]; simp))
    rw [hoff]
    repeat refine zz ?_
    refine o_call rfl rfl rfl (copyNodes_own (hx.keep hk) hn) ?_
    rintro vc wc ⟨kc, fc, hoc⟩
    repeat refine zz ?_
    exact ret2 rfl rfl rfl ⟨hk.keep kc, _, fc, rfl, hoc.low (by have := hk.size_le; omega)⟩
  simp at h2
  rw [hnx] at h2
  have hpl : placeB E at_ = true := by unfold placeB; rw [h1, h2]; rfl
  obtain ⟨_, p, rfl, hp⟩ := placeB_ok hpl
  obtain ⟨hl9, ht9, hm9⟩ := expr_small h1
  have hsp := st_le E (p + 1)
  have hcaps := hx.caps
  repeat refine zz ?_
  refine o_call rfl rfl rfl (rewritten_ok (hx.keep hk) h1 hp rule) ?_
  rintro _ w2 ⟨k2, u, b, rfl, hyes, hno⟩
  replace hk := hk.keep k2
  repeat refine zz ?_
  cases b with
  | false =>
    rw [ap_none (hno rfl)]
    repeat refine zz ?_
    refine o_call rfl rfl rfl (copyNodes_own (hx.keep hk) hn) ?_
    rintro vc wc ⟨kc, fc, hoc⟩
    repeat refine zz ?_
    exact ret2 rfl rfl rfl ⟨hk.keep kc, _, fc, rfl, hoc.low (by have := hk.size_le; omega)⟩
  | true =>
    obtain ⟨q, fq, hq, hsq, hql, hqm⟩ := hyes rfl
    obtain ⟨s1, hs1, _⟩ := hx.hi (k := st E (p + 1)) (by omega)
    obtain ⟨s2, hs2, _⟩ := hx.lo (k := p + 1) (by omega)
    have d1 := hs1.dom
    have d2 := hs2.dom
    have hz2 := hk.size_le
    have hl1 : (E.take (st E (p + 1))).length ≤ 9 := by rw [List.length_take]; omega
    have hl2 : (E.drop (p + 1)).length ≤ 9 := by rw [List.length_drop]; omega
    obtain ⟨Aq, nq, cq, rfl, hnq⟩ := hsq.split
    have dq := hsq.dom
    repeat refine zz ?_
    refine o_buildSlice rfl rfl rfl rfl rfl (by intro p hp; cases hp) (by omega) ?_
    intro bO wO halO
    have hkO := halO.kp
    have zO := halO.b_eq
    have sO := halO.size
    replace hk := hk.keep hkO
    replace hsq := hsq.keep hkO
    have ho1 : OwnX nodeR wO w.heap.size 74 (.slice (some ⟨bO, 0, none⟩) 0 0) [] := OwnX.made halO.blk (by omega)
    repeat refine zz ?_
    refine o_call rfl rfl rfl (start_ok (hx.keep hk) (by omega) hp (hit_at h1 hp) rfl) ?_
    rintro _ _ ⟨rfl, rfl⟩
    obtain ⟨gA, srA, gdA, gfA⟩ := (hs1.keep hk).srcX
    have hz3 := hk.size_le
    repeat refine zz ?_
    refine WL_pure rfl rfl (o_slice_hi (h := st E (p + 1)) rfl rfl (by omega)) ?_
    refine o_appX (R := nodeR) rfl rfl rfl rfl rfl (by decide) ho1 srA (by rw [List.length_take]; omega) gdA (fun c hc hm => by have := d1 c (gfA c hm); have := (ho1.lt (b := c) hc).1; omega) (by simp only [List.length_nil]; omega) (by simp only [List.length_nil]; omega) (by omega) ?_
    intro v3 w3 ho3 hg3 hv3
    rw [List.nil_append] at ho3
    replace hk := hk.grown hg3 (fun c hc => (ho1.lt (b := c) hc).1)
    replace hsq := hsq.grownN hg3 (fun c hc hm => by have := dq c hm; simp [Value.ownBlock] at hc; omega)
    repeat refine zz ?_
    refine W_draw (fun _ => True) (by kernel_rfl) ?_
    have hT : True := trivial
    replace hk := hk.keep (Keep.drew w3)
    replace ho3 := ho3.keep (Keep.drew w3)
    have dq3 := hsq.dom
    replace hsq := hsq.keep (Keep.drew w3)
    have hSb : True := trivial
    have hz4 := hk.size_le
    refine WD_take 0 rfl (by kernel_rfl) (by kernel_rfl) (by kernel_rfl) (by repeat (first | exact np_ret | refine np_then ?_ | refine np_in ?_)) rfl rfl (fun w' _ => o_move rfl) hSb ?_
    refine WD_take 1 rfl (by kernel_rfl) (by kernel_rfl) (by kernel_rfl) (by repeat (first | exact np_ret | refine np_then ?_ | refine np_in ?_)) rfl rfl (fun w' _ => o_move rfl) hSb ?_
    refine WD_take 3 rfl (by kernel_rfl) (by kernel_rfl) (by kernel_rfl) (by repeat (first | exact np_ret | refine np_then ?_ | refine np_in ?_)) rfl rfl (fun w' _ => o_move rfl) hSb ?_
    refine WD_take 4 rfl (by kernel_rfl) (by kernel_rfl) (by kernel_rfl) (by repeat (first | exact np_ret | refine np_then ?_ | refine np_in ?_)) rfl rfl (fun w' _ => o_move rfl) hSb ?_
    refine WD_take 5 rfl (by kernel_rfl) (by kernel_rfl) (by kernel_rfl) (by repeat (first | exact np_ret | refine np_then ?_ | refine np_in ?_)) rfl rfl (fun w' _ => o_add rfl rfl (by omega)) hSb ?_
    refine WD_take 6 rfl (by kernel_rfl) (by kernel_rfl) (by kernel_rfl) (by repeat (first | exact np_ret | refine np_then ?_ | refine np_in ?_)) rfl rfl (fun w' _ => o_slice_lo (l := p + 1) rfl rfl (by omega)) hSb ?_
    refine WD_one 2 (by kernel_rfl) rfl ?_
    obtain ⟨gQ, srQ, gdQ, gfQ⟩ := hsq.srcX
    refine o_appX (R := nodeR) rfl rfl rfl rfl rfl (by decide) ho3 srQ hnq gdQ (fun c hc hm => by
      have h6 := dq c (gfQ c hm)
      rcases hv3 with h | h
      · rw [h] at hc; simp [Value.ownBlock] at hc; omega
      · rw [h] at hc; simp only [Option.some.injEq] at hc; omega) (by omega) (by omega) (by omega) ?_
    intro v4 w4 ho4 hg4 hv4
    replace hk := hk.grown hg4 (fun c hc => (ho3.lt (b := c) hc).1)
    have hz5 := hk.size_le
    refine WL_end ⟨trivial, ?_⟩
    refine WD_one 7 (by kernel_rfl) rfl ?_
    obtain ⟨gB, srB, gdB, gfB⟩ := (hs2.keep hk).srcX
    refine o_appX (R := nodeR) rfl rfl rfl rfl rfl (by decide) ho4 srB (by rw [List.length_drop]; omega) gdB (fun c hc hm => by have := d2 c (gfB c hm); have := (ho4.lt (b := c) hc).1; omega) (by simp only [List.length_append]; omega) (by simp only [List.length_append]; omega) (by omega) ?_
    intro v5 w5 ho5 hg5 hv5
    replace hk := hk.grown hg5 (fun c hc => (ho4.lt (b := c) hc).1)
    refine WL_end ⟨trivial, ?_⟩
    refine WD_take 8 rfl (by kernel_rfl) (by kernel_rfl) (by kernel_rfl) (by repeat (first | exact np_ret | refine np_then ?_ | refine np_in ?_)) rfl rfl (fun w' _ => o_assign rfl) hSb ?_
    refine WD_done (by kernel_rfl) ?_
    have eput : E.take (st E (p + 1)) ++ q ++ E.drop (p + 1) = putR E p q := by unfold putR; rfl
    rw [eput] at ho5
    obtain ⟨A5, n5, c5, rfl, hn5, _⟩ := ho5.split
    obtain ⟨f5, hs5⟩ := ho5.sl (by decide)
    have hz6 := hk.size_le
    repeat refine zz ?_
    refine W_cond rfl (fun h9 => ?_) (fun h9 => ?_)
    · simp at h9
      rw [ap_long hq (by omega)]
      repeat refine zz ?_
      refine o_call rfl rfl rfl (copyNodes_own (hx.keep hk) hn) ?_
      rintro vc wc ⟨kc, fc, hoc⟩
      repeat refine zz ?_
      exact ret2 rfl rfl rfl ⟨hk.keep kc, _, fc, rfl, hoc.low (by omega)⟩
    · simp at h9
      rw [ap_some h1 hp hq (by omega)]
      repeat refine zz ?_
      refine o_call rfl rfl rfl (copyNodes_own hs5 (by have := small_tot2 (putR_mem (p := p) hm9 hqm) (by omega); omega)) ?_
      rintro vc wc ⟨kc, fc, hoc⟩
      repeat refine zz ?_
      exact ret2 rfl rfl rfl ⟨hk.keep kc, _, fc, rfl, hoc.low (by omega)⟩
end Go.E

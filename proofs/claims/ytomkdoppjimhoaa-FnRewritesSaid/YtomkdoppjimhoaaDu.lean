/-
  Contracts: the draws of the law on rewriting; parts of expressions. Conditions: as stated.
-/
import Derived.Test.YtomkdoppjimhoaaDt
import Derived.Test.YtomkdoppjimhoaaX3
set_option linter.unusedVariables false
set_option linter.unusedSimpArgs false
namespace Go.E
open Go Go.RowKit Go.Proofs
def subT (E : List Nod) (k : Int) : List Nod := if placeB E k then seg E (st E (k.toNat + 1)) (k.toNat + 1) else []
theorem sub_expr {E : List Nod} {k : Int} (h : subT E k ≠ []) : isExpr (subT E k) = true := by
  unfold subT at h ⊢
  split at h
  · rename_i hpb
    rw [if_pos hpb]
    obtain ⟨h1, p, rfl, hp⟩ := placeB_ok hpb
    rw [Int.toNat_natCast]
    obtain ⟨c, t, ha⟩ := at_ex h1 hp
    have e : seg E (st E (p + 1)) (p + 1) = flat t := seg_of ha.take ha.st
    rw [e]
    have hl := ha.len
    have := (expr_small h1).1
    exact tree_expr (plug_ok ha.ok) (by omega)
  · exact absurd rfl h
theorem agree_same {a b : List Nod} {L : List Itm} (h : ∀ x y, cmpX a x y = cmpX b x y) : agree a b L = true := by
  unfold agree
  exact allB_true fun i _ => allB_true fun j _ => by rw [agreeAt]; exact decide_eq_true (h _ _)
theorem cmpX_same {a b : List Nod} (ha : isExpr a = true) (hb : isExpr b = true) (h : ∀ x y, cmpE b x y = cmpE a x y) (x y : Itm) : cmpX a x y = cmpX b x y := by
  unfold cmpX
  rw [ha, hb, h]
theorem rewr_mem {E : List Nod} {x : Rwt} : ∀ n : Nat, x ∈ rwsN E n → ∃ p r : Nat, p < n ∧ 1 ≤ r ∧ r ≤ 4 ∧ x.rule = (r : Int) ∧ applyR E (r : Int) (p : Int) = some x.after := by
  intro n
  induction n with
  | zero => intro h; simp [rwsN] at h
  | succ n ih =>
    intro h
    rw [rwsN] at h
    rcases List.mem_append.1 h with h | h
    · obtain ⟨p, r, h1, h2⟩ := ih h
      exact ⟨p, r, by omega, h2⟩
    · have key : ∀ k, x ∈ rwN E n k → ∃ r, 1 ≤ r ∧ r ≤ k ∧ x.rule = ((r : Nat) : Int) ∧ applyR E (r : Int) (n : Int) = some x.after := by
        intro k
        induction k with
        | zero => intro h; simp [rwN] at h
        | succ k ihk =>
          intro h
          rw [rwN] at h
          rcases List.mem_append.1 h with h | h
          · obtain ⟨r, h1, h2, h3⟩ := ihk h
            exact ⟨r, h1, by omega, h3⟩
          · cases hap : applyR E ((k + 1 : Nat) : Int) (n : Int) with
            | none => rw [rwAt_none hap] at h; simp at h
            | some y =>
              rw [rwAt_some hap, List.mem_singleton] at h
              subst h
              exact ⟨k + 1, by omega, Nat.le_refl _, rfl, hap⟩
      obtain ⟨r, h1, h2, h3, h4⟩ := key 4 h
      exact ⟨n, r, by omega, h1, h2, h3, h4⟩
/-- what is rewritten from a normal form: only by the last rule, and says the same -/
theorem rewr_norm {F : List Nod} {i : Nat} (hi : i < (rewr (norm F)).length) : (gi (rewr (norm F)) (i : Int)).rule = 4 ∧ isExpr (norm F) = true ∧ isExpr (gi (rewr (norm F)) (i : Int)).after = true ∧ ∀ x y, cmpE (gi (rewr (norm F)) (i : Int)).after x y = cmpE (norm F) x y := by
  have hm : gi (rewr (norm F)) (i : Int) ∈ rwsN (norm F) (norm F).length := by rw [gi_lt hi]; exact List.getElem_mem hi
  obtain ⟨p, r, hp, h1, h4, hr, hap⟩ := rewr_mem _ hm
  obtain ⟨e1, e2, e3, _⟩ := applyR_expr hap
  refine ⟨?_, e1, e2, e3⟩
  have hF : isExpr F = true := by
    cases h : isExpr F with
    | true => rfl
    | false => rw [norm, (normN_ok 60 F).2 h, h] at e1; cases e1
  have hd := norm_done hF
  have hno := stepFrom_none (k := (norm F).length) (p := 0) hd p (Nat.zero_le _) (by omega)
  obtain ⟨n1, n2, n3⟩ := ruleAt_none hno
  rw [hr]
  rcases (show r = 1 ∨ r = 2 ∨ r = 3 ∨ r = 4 by omega) with rfl | rfl | rfl | rfl
  · rw [show ((1 : Nat) : Int) = 1 from rfl, n1] at hap; cases hap
  · rw [show ((2 : Nat) : Int) = 2 from rfl, n2] at hap; cases hap
  · rw [show ((3 : Nat) : Int) = 3 from rfl, n3] at hap; cases hap
  · rfl
attribute [local irreducible] W WL WD WE thenE inE retQ PureOp Keep Cell Cells Blk Sl Rows Own Src Fresh
attribute [local irreducible] Cur LoN isExpr seg st hitR norm subT

theorem DrawAreItems_ok {w : World} {v : Value} {xs : List Int} {fp : List Nat} (hx : Sl u8R w v xs fp) (hn : xs.length ≤ 1048576) :
    Run Try.prog 24 [v] w (fun r w' => Keep w w' ∧ ∃ (L : List Itm) (fi : List Nat), Sl itemR w' r L fi ∧ L.length ≤ 101 ∧ small L) := by
  refine Run_intro Try.func24 (by unfold CallOk; kernel_rfl) rfl Try.ntmps24 (Nat.le_of_ble_eq_true rfl) ?_
  simp only [penv, Nat.reduceAdd, Nat.zero_add]
  repeat refine zz ?_
  refine o_call rfl rfl rfl (l1New_ok hx hn) ?_
  rintro _ w1 ⟨b, rfl, hb, hc, hk⟩
  repeat refine zz ?_
  refine o_call rfl rfl rfl (l2Any_ok hc) ?_
  rintro _ w2 ⟨L, fi, ho, hl, hsm, hc2, hw⟩
  obtain ⟨f, hs, hf⟩ := ho.sl (by decide)
  repeat refine zz ?_
  exact ret1 rfl rfl ⟨hw.keep hk (fun c hc => by simp at hc; omega), L, f, hs, hl, hsm⟩

theorem DrawNormalizeExpression_ok {w : World} {v : Value} {xs : List Int} {fp : List Nat} (hx : Sl u8R w v xs fp) (hn : xs.length ≤ 1048576) :
    Run Try.prog 28 [v] w (fun r w' => Keep w w' ∧ ∃ (E : List Nod) (fi : List Nat), Sl nodeR w' r E fi ∧ E.length ≤ 9 ∧ smallE E) := by
  refine Run_intro Try.func28 (by unfold CallOk; kernel_rfl) rfl Try.ntmps28 (Nat.le_of_ble_eq_true rfl) ?_
  simp only [penv, Nat.reduceAdd, Nat.zero_add]
  repeat refine zz ?_
  refine o_call rfl rfl rfl (l1New_ok hx hn) ?_
  rintro _ w1 ⟨b, rfl, hb, hc, hk⟩
  repeat refine zz ?_
  refine o_call rfl rfl rfl (l6Draw_ok hc) ?_
  rintro _ w2 ⟨E, f, hs, hf, hl, hsm, hc2, hw⟩
  repeat refine zz ?_
  exact ret1 rfl rfl ⟨hw.keep hk (fun c hc => by simp at hc; omega), E, f, hs, hl, hsm⟩

theorem DrawSubtree_ok {w : World} {v : Value} {xs : List Int} {fp : List Nat} (hx : Sl u8R w v xs fp) (hn : xs.length ≤ 1048576) :
    Run Try.prog 32 [v] w (fun r w' => Keep w w' ∧ ∃ (u : Value) (E : List Nod) (fi : List Nat) (k : Int), r = .tuple #[u, .int .i64 k] ∧ Sl nodeR w' u E fi ∧ E.length ≤ 9 ∧ smallE E) := by
  refine Run_intro Try.func32 (by unfold CallOk; kernel_rfl) rfl Try.ntmps32 (Nat.le_of_ble_eq_true rfl) ?_
  simp only [penv, Nat.reduceAdd, Nat.zero_add]
  repeat refine zz ?_
  refine o_call rfl rfl rfl (l1New_ok hx hn) ?_
  rintro _ w1 ⟨b, rfl, hb, hc, hk⟩
  have hbl := hc.lt
  repeat refine zz ?_
  refine o_call rfl rfl rfl (l6Draw_ok hc) ?_
  rintro _ w2 ⟨E, f, hs, hf, hl, hsm, hc2, hw⟩
  have hgb : b ∉ f := fun hm => by have := hf _ hm; omega
  repeat refine zz ?_
  refine o_call rfl rfl rfl (l1Below_ok hc2 (by omega)) ?_
  rintro _ w3 ⟨q, rfl, hq0, hq1, hq2, hc3, hw3⟩
  replace hs := hs.wrs hw3 (fun k h1 h2 => hgb (by simp at h2; exact h2 ▸ h1))
  replace hw := hw.trans hw3
  repeat refine zz ?_
  exact ret2 rfl rfl rfl ⟨hw.keep hk (fun c hc => by simp at hc; omega), _, E, f, _, rfl, hs, hl, hsm⟩

theorem DrawApplyRule_ok {w : World} {v : Value} {xs : List Int} {fp : List Nat} (hx : Sl u8R w v xs fp) (hn : xs.length ≤ 1048576) :
    Run Try.prog 21 [v] w (fun r w' => Keep w w' ∧ ∃ (u : Value) (E : List Nod) (fi : List Nat) (k q : Int), r = .tuple #[u, .int .i64 k, .int .i64 q] ∧ Sl nodeR w' u E fi ∧ E.length ≤ 9 ∧ smallE E) := by
  refine Run_intro Try.func21 (by unfold CallOk; kernel_rfl) rfl Try.ntmps21 (Nat.le_of_ble_eq_true rfl) ?_
  simp only [penv, Nat.reduceAdd, Nat.zero_add]
  repeat refine zz ?_
  refine o_call rfl rfl rfl (l1New_ok hx hn) ?_
  rintro _ w1 ⟨b, rfl, hb, hc, hk⟩
  have hbl := hc.lt
  repeat refine zz ?_
  refine o_call rfl rfl rfl (l6Draw_ok hc) ?_
  rintro _ w2 ⟨E, f, hs, hf, hl, hsm, hc2, hw⟩
  have hgb : b ∉ f := fun hm => by have := hf _ hm; omega
  obtain ⟨A, n, c, rfl, hnx⟩ := hs.split
  repeat refine zz ?_
  refine o_call rfl rfl rfl (l1Below_ok hc2 (by omega)) ?_
  rintro _ w3 ⟨q, rfl, hq0, hq1, hq2, hc3, hw3⟩
  replace hs := hs.wrs hw3 (fun k h1 h2 => hgb (by simp at h2; exact h2 ▸ h1))
  replace hw := hw.trans hw3
  repeat refine zz ?_
  refine WL_part rfl rfl (fun h0 => ?_) (fun h0 => ?_)
  · repeat refine zz ?_
    refine o_call rfl rfl rfl (l1Once_ok hc3 (by omega)) ?_
    rintro _ w4 ⟨o, rfl, hc4, hw4⟩
    replace hs := hs.wrs hw4 (fun k h1 h2 => hgb (by simp at h2; exact h2 ▸ h1))
    replace hw := hw.trans hw4
    repeat refine zz ?_
    refine W_cond rfl (fun h1 => ?_) (fun h1 => ?_)
    · repeat refine zz ?_
      exact ret3 rfl rfl rfl rfl ⟨hw.keep hk (fun c hc => by simp at hc; omega), _, E, f, _, _, rfl, hs, hl, hsm⟩
    · repeat refine zz ?_
      refine o_call rfl rfl rfl (l1Below_ok hc4 (by omega)) ?_
      rintro _ w5 ⟨y, rfl, hy0, hy1, hy2, hc5, hw5⟩
      replace hs := hs.wrs hw5 (fun k h1 h2 => hgb (by simp at h2; exact h2 ▸ h1))
      replace hw := hw.trans hw5
      repeat refine zz ?_
      exact ret3 rfl rfl rfl rfl ⟨hw.keep hk (fun c hc => by simp at hc; omega), _, E, f, _, _, rfl, hs, hl, hsm⟩
  · repeat refine zz ?_
    refine o_call rfl rfl rfl (l1Below_ok hc3 (by omega)) ?_
    rintro _ w5 ⟨y, rfl, hy0, hy1, hy2, hc5, hw5⟩
    replace hs := hs.wrs hw5 (fun k h1 h2 => hgb (by simp at h2; exact h2 ▸ h1))
    replace hw := hw.trans hw5
    repeat refine zz ?_
    exact ret3 rfl rfl rfl rfl ⟨hw.keep hk (fun c hc => by simp at hc; omega), _, E, f, _, _, rfl, hs, hl, hsm⟩

set_option maxHeartbeats 1000000 in
theorem DrawAgreeOn_ok {w : World} {v : Value} {xs : List Int} {fp : List Nat} (hx : Sl u8R w v xs fp) (hn : xs.length ≤ 1048576) :
    Run Try.prog 31 [v] w (fun r w' => Keep w w' ∧ ∃ (u v z : Value) (E F : List Nod) (L : List Itm) (fe ff fl : List Nat), r = .tuple #[u, v, z] ∧ Sl nodeR w' u E fe ∧ E.length + totN E ≤ 1048576 ∧ Sl nodeR w' v F ff ∧ F.length + totN F ≤ 1048576 ∧ Sl itemR w' z L fl ∧ L.length ≤ 101) := by
  refine Run_intro Try.func31 (by unfold CallOk; kernel_rfl) rfl Try.ntmps31 (Nat.le_of_ble_eq_true rfl) ?_
  simp only [penv, Nat.reduceAdd, Nat.zero_add]
  repeat refine zz ?_
  refine o_call rfl rfl rfl (l1New_ok hx hn) ?_
  rintro _ w1 ⟨b, rfl, hb, hc, hk⟩
  have hbl := hc.lt
  repeat refine zz ?_
  refine o_call rfl rfl rfl (l6Draw_ok hc) ?_
  rintro _ w2 ⟨E, f, hs, hf, hl, hsm, hc2, hw⟩
  have hgb : b ∉ f := fun hm => by have := hf _ hm; omega
  have htE : E.length + totN E ≤ 1048576 := by have := smallE_tot hsm; omega
  have htF := norm_size htE
  have hz2 := hw.size
  repeat refine zz ?_
  refine o_call rfl rfl rfl (spec_NormalizeExpression_ok hs htE) ?_
  rintro vn w3 ⟨k3, fn, hsn, hfn⟩
  have hgn : b ∉ fn := fun hm => by have := hfn.ge hm; omega
  replace hs := hs.keep k3
  replace hc2 := hc2.keep k3
  replace hw := hw.keepR k3
  have hz3 := hw.size
  repeat refine zz ?_
  refine o_call rfl rfl rfl (l1Once_ok hc2 (by omega)) ?_
  rintro _ w4 ⟨o, rfl, hc4, hw4⟩
  replace hs := hs.wrs hw4 (fun k h1 h2 => hgb (by simp at h2; exact h2 ▸ h1))
  replace hsn := hsn.wrs hw4 (fun k h1 h2 => hgn (by simp at h2; exact h2 ▸ h1))
  replace hw := hw.trans hw4
  have hz4 := hw.size
  repeat refine zz ?_
  refine W_cond rfl (fun h1 => ?_) (fun h1 => ?_)
  · repeat refine zz ?_
    refine o_call rfl rfl rfl (l5Any_ok hc4) ?_
    rintro _ w5 ⟨G, fg, hsG, hfG, hlG, hsmG, hc5, hw5⟩
    have hgg : b ∉ fg := fun hm => by have := hfG _ hm; omega
    replace hs := hs.wrs hw5 (fun k h1 h2 => hgb (by simp at h2; exact h2 ▸ h1))
    replace hw := hw.trans hw5
    have htG : G.length + totN G ≤ 1048576 := by have := smallE_tot hsmG; omega
    repeat refine zz ?_
    refine o_call rfl rfl rfl (l2Any_ok hc5) ?_
    rintro _ w6 ⟨L, fi, ho, hlL, hsL, hc6, hw6⟩
    obtain ⟨fo, hso, hfo⟩ := ho.sl (by decide)
    replace hs := hs.wrs hw6 (fun k h1 h2 => hgb (by simp at h2; exact h2 ▸ h1))
    replace hsG := hsG.wrs hw6 (fun k h1 h2 => hgg (by simp at h2; exact h2 ▸ h1))
    replace hw := hw.trans hw6
    repeat refine zz ?_
    exact ret3 rfl rfl rfl rfl ⟨hw.keep hk (fun c hc => by simp at hc; omega), _, _, _, E, G, L, f, fg, fo, rfl, hs, htE, hsG, htG, hso, hlL⟩
  · repeat refine zz ?_
    refine o_call rfl rfl rfl (l2Any_ok hc4) ?_
    rintro _ w6 ⟨L, fi, ho, hlL, hsL, hc6, hw6⟩
    obtain ⟨fo, hso, hfo⟩ := ho.sl (by decide)
    replace hs := hs.wrs hw6 (fun k h1 h2 => hgb (by simp at h2; exact h2 ▸ h1))
    replace hsn := hsn.wrs hw6 (fun k h1 h2 => hgn (by simp at h2; exact h2 ▸ h1))
    replace hw := hw.trans hw6
    repeat refine zz ?_
    exact ret3 rfl rfl rfl rfl ⟨hw.keep hk (fun c hc => by simp at hc; omega), _, _, _, E, _, L, f, fn, fo, rfl, hs, htE, hsn, htF, hso, hlL⟩

set_option maxHeartbeats 1000000 in
theorem impl_Subtree_own {w : World} {v : Value} {E : List Nod} {fp : List Nat} (hx : Sl nodeR w v E fp) (hn : E.length + totN E ≤ 1048576) (at_ : Int) :
    Run Try.prog 33 [v, .int .i64 at_] w (fun r w' => Keep w w' ∧ ∃ fi, OwnF nodeR w' w.heap.size 74 r (subT E at_) fi) := by
  obtain ⟨A, n, c, rfl, hnx⟩ := hx.split
  refine Run_intro Try.func33 (by unfold CallOk; kernel_rfl) rfl Try.ntmps33 (Nat.le_of_ble_eq_true rfl) ?_
  simp only [penv, Nat.reduceAdd, Nat.zero_add]
  repeat refine zz ?_
  refine o_call rfl rfl rfl (impl_IsExpression_ok hx (by omega)) ?_
  rintro _ w1 ⟨rfl, hk⟩
  repeat refine zz ?_
  refine WL_part rfl rfl (fun h1 => ?_) (fun h1 => ?_)
  · simp at h1
    repeat refine zz ?_
    have hoff : subT E at_ = [] := by unfold subT placeB; first | (rw [h1]; rfl) | (rw [h2]; simp)
    rw [hoff]
    repeat refine zz ?_
    refine o_buildSlice rfl rfl rfl rfl rfl (by intro p hp; cases hp) (by omega) ?_
    intro bO wO halO
    have hkO := halO.kp
    repeat refine zz ?_
    exact ret1 rfl rfl ⟨hk.keep hkO, [], OwnF.made halO.blk (by have := halO.b_eq; have := hk.size_le; omega)⟩
  simp at h1
  repeat refine zz ?_
  refine o_call rfl rfl rfl (within_ok at_ 0 ((n : Int) - 1) _) ?_
  rintro _ _ ⟨rfl, rfl⟩
  repeat refine zz ?_
  refine W_cond rfl (fun h2 => ?_) (fun h2 => ?_)
  · simp at h2
    rw [hnx] at h2
    have hoff : subT E at_ = [] := by unfold subT placeB; first | (rw [h1]; rfl) | (rw [h2]; simp)
    rw [hoff]
    repeat refine zz ?_
    refine o_buildSlice rfl rfl rfl rfl rfl (by intro p hp; cases hp) (by omega) ?_
    intro bO wO halO
    have hkO := halO.kp
    repeat refine zz ?_
    exact ret1 rfl rfl ⟨hk.keep hkO, [], OwnF.made halO.blk (by have := halO.b_eq; have := hk.size_le; omega)⟩
  simp at h2
  rw [hnx] at h2
  have hpl : placeB E at_ = true := by unfold placeB; rw [h1, h2]; rfl
  have hsub : subT E at_ = seg E (st E (at_.toNat + 1)) (at_.toNat + 1) := by unfold subT; rw [if_pos hpl]
  obtain ⟨_, p, rfl, hp⟩ := placeB_ok hpl
  rw [Int.toNat_natCast] at hsub
  have hsp := st_le E (p + 1)
  have hcaps := hx.caps
  have htt := copy_tot (a := st E (p + 1)) (b := p + 1) hn (expr_small h1).2.2 (by have := (expr_small h1).1; omega)
  obtain ⟨s1, hs1, _⟩ := (hx.keep hk).seg (l := st E (p + 1)) (k := p + 1) (by omega) (by omega)
  have e3 : (E.take (p + 1)).drop (st E (p + 1)) = seg E (st E (p + 1)) (p + 1) := by unfold seg; rfl
  rw [e3] at hs1
  repeat refine zz ?_
  refine o_call rfl rfl rfl (start_ok (hx.keep hk) (by omega) hp (hit_at h1 hp) rfl) ?_
  rintro _ _ ⟨rfl, rfl⟩
  repeat refine zz ?_
  refine WL_pure rfl rfl (o_slice_lh (l := st E (p + 1)) (h := p + 1) rfl rfl rfl (by omega) (by omega)) ?_
  repeat refine zz ?_
  refine o_call rfl rfl rfl (copyNodes_own hs1 (by omega)) ?_
  rintro vc wc ⟨kc, fc, hoc⟩
  repeat refine zz ?_
  exact ret1 rfl rfl ⟨hk.keep kc, fc, by rw [hsub]; exact hoc.low (by have := hk.size_le; omega)⟩

set_option maxHeartbeats 1000000 in
theorem spec_Subtree_own {w : World} {v : Value} {E : List Nod} {fp : List Nat} (hx : Sl nodeR w v E fp) (hn : E.length + totN E ≤ 1048576) (at_ : Int) :
    Run Try.prog 34 [v, .int .i64 at_] w (fun r w' => Keep w w' ∧ ∃ fi, OwnF nodeR w' w.heap.size 74 r (subT E at_) fi) := by
  obtain ⟨A, n, c, rfl, hnx⟩ := hx.split
  refine Run_intro Try.func34 (by unfold CallOk; kernel_rfl) rfl Try.ntmps34 (Nat.le_of_ble_eq_true rfl) ?_
  simp only [penv, Nat.reduceAdd, Nat.zero_add]
  repeat refine zz ?_
  refine o_call rfl rfl rfl (spec_IsExpression_ok hx (by omega)) ?_
  rintro _ w1 ⟨rfl, hk⟩
  repeat refine zz ?_
  refine WL_part rfl rfl (fun h1 => ?_) (fun h1 => ?_)
  · simp at h1
    repeat refine zz ?_
    have hoff : subT E at_ = [] := by unfold subT placeB; first | (rw [h1]; rfl) | (rw [h2]; simp)
    rw [hoff]
    repeat refine zz ?_
    refine o_buildSlice rfl rfl rfl rfl rfl (by intro p hp; cases hp) (by omega) ?_
    intro bO wO halO
    have hkO := halO.kp
    repeat refine zz ?_
    exact ret1 rfl rfl ⟨hk.keep hkO, [], OwnF.made halO.blk (by have := halO.b_eq; have := hk.size_le; omega)⟩
  simp at h1
  repeat refine zz ?_
  refine o_call rfl rfl rfl (l1In_ok at_ 0 ((n : Int) - 1) _) ?_
  rintro _ _ ⟨rfl, rfl⟩
  repeat refine zz ?_
  refine W_cond rfl (fun h2 => ?_) (fun h2 => ?_)
  · simp at h2
    rw [hnx] at h2
    have hoff : subT E at_ = [] := by unfold subT placeB; first | (rw [h1]; rfl) | (rw [h2]; simp)
    rw [hoff]
    repeat refine zz ?_
    refine o_buildSlice rfl rfl rfl rfl rfl (by intro p hp; cases hp) (by omega) ?_
    intro bO wO halO
    have hkO := halO.kp
    repeat refine zz ?_
    exact ret1 rfl rfl ⟨hk.keep hkO, [], OwnF.made halO.blk (by have := halO.b_eq; have := hk.size_le; omega)⟩
  simp at h2
  rw [hnx] at h2
  have hpl : placeB E at_ = true := by unfold placeB; rw [h1, h2]; rfl
  have hsub : subT E at_ = seg E (st E (at_.toNat + 1)) (at_.toNat + 1) := by unfold subT; rw [if_pos hpl]
  obtain ⟨_, p, rfl, hp⟩ := placeB_ok hpl
  rw [Int.toNat_natCast] at hsub
  have hsp := st_le E (p + 1)
  have hcaps := hx.caps
  have htt := copy_tot (a := st E (p + 1)) (b := p + 1) hn (expr_small h1).2.2 (by have := (expr_small h1).1; omega)
  obtain ⟨s1, hs1, _⟩ := (hx.keep hk).seg (l := st E (p + 1)) (k := p + 1) (by omega) (by omega)
  have e3 : (E.take (p + 1)).drop (st E (p + 1)) = seg E (st E (p + 1)) (p + 1) := by unfold seg; rfl
  rw [e3] at hs1
  repeat refine zz ?_
  refine o_call rfl rfl rfl (l6Start_ok (hx.keep hk) (by omega) (p := p + 1) (by omega) (by omega)) ?_
  rintro _ _ ⟨rfl, rfl⟩
  repeat refine zz ?_
  refine WL_pure rfl rfl (o_slice_lh (l := st E (p + 1)) (h := p + 1) rfl rfl rfl (by omega) (by omega)) ?_
  repeat refine zz ?_
  refine o_call rfl rfl rfl (l5Copy_own hs1 (by omega)) ?_
  rintro vc wc ⟨kc, fc, hoc⟩
  repeat refine zz ?_
  exact ret1 rfl rfl ⟨hk.keep kc, fc, by rw [hsub]; exact hoc.low (by have := hk.size_le; omega)⟩
end Go.E

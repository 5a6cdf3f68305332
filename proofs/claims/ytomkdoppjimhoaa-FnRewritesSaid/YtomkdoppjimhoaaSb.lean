/-
  Contracts: rules of rewriting, by the reference. Conditions: as stated.
-/
import Derived.Test.YtomkdoppjimhoaaSp
import Derived.Test.YtomkdoppjimhoaaSa
import Derived.Test.YtomkdoppjimhoaaOx
set_option linter.unusedVariables false
set_option linter.unusedSimpArgs false
namespace Go.E
open Go Go.RowKit Go.Proofs
theorem opN_rows (w : World) (k : Int) : Rows nodeR w [opN k] [.int .i64 k, .int .i64 0, .int .i64 0, .int .i64 0, .slice none 0 0, .slice none 0 0] [] :=
  Rows.single ⟨_, rfl, _, _, [], [], rfl, rfl, Sl.nil (by omega) _, Sl.nil (by omega) _⟩
theorem opN_rows2 (w : World) (k l : Int) : Rows nodeR w [opN k, opN l] ([.int .i64 k, .int .i64 0, .int .i64 0, .int .i64 0, .slice none 0 0, .slice none 0 0] ++ [.int .i64 l, .int .i64 0, .int .i64 0, .int .i64 0, .slice none 0 0, .slice none 0 0]) [] :=
  (opN_rows w k).append (opN_rows w l)
theorem copy_tot {E : List Nod} {a b : Nat} (hn : E.length + totN E ≤ 1048576) (h : ∀ x, x ∈ E → totW x.wish ≤ 18) (hl : E.length ≤ 20) : (seg E a b).length + totN (seg E a b) ≤ 1000 := by
  have h1 := seg_len E a b
  have h2 := totN_mem (E := seg E a b) (k := 18) fun x hx => h x (seg_mem hx)
  have : 18 * (seg E a b).length ≤ 18 * 20 := Nat.mul_le_mul_left _ (by omega)
  omega
theorem small_tot2 {E : List Nod} (h : ∀ x, x ∈ E → totW x.wish ≤ 18) (hl : E.length ≤ 40) : E.length + totN E ≤ 1000 := by
  have h2 := totN_mem h
  have : 18 * E.length ≤ 18 * 40 := Nat.mul_le_mul_left _ hl
  omega
attribute [local irreducible] W WL WD WE thenE inE retQ PureOp Keep Cell Cells Blk Sl Rows Own Src Fresh
attribute [local irreducible] opnds stR hitR isExpr seg st

set_option maxHeartbeats 1000000 in
theorem l6Parts_ok {w : World} {v : Value} {E : List Nod} {fp : List Nat} (hx : Sl nodeR w v E fp) (hex : isExpr E = true) {p : Nat} (hp : p < E.length) (h1 : st E (p + 1) ≤ st E p) {i : Int} (hi : i = (p : Int)) :
    Run Try.prog 111 [v, .int .i64 i] w (fun r w' => Keep w w' ∧ ∃ u1 u2 M f1 f2, r = .tuple #[u1, u2] ∧ OwnX nodeR w' w.heap.size 74 u1 (seg E (st E (p + 1)) (st E p)) ∧ OwnX nodeR w' w.heap.size 74 u2 (seg E (st E p) p) ∧
      Sl nodeR w' u1 (seg E (st E (p + 1)) (st E p)) f1 ∧ Sl nodeR w' u2 (seg E (st E p) p) f2 ∧ (∀ b, b ∈ f1 → b < M) ∧ (∀ b, b ∈ f2 → M ≤ b) ∧ (∀ c, u1.ownBlock = some c → c < M) ∧ (∀ c, u2.ownBlock = some c → M ≤ c)) := by
  obtain ⟨A, n, c, rfl, hnx⟩ := hx.split
  subst hi
  obtain ⟨hl9, ht9, hm9⟩ := expr_small hex
  have hsp := st_le E p
  have hcaps := hx.caps
  have htt : E.length + totN E ≤ 1048576 := by omega
  have ta := copy_tot (a := st E (p + 1)) (b := st E p) htt hm9 (by omega)
  have tb := copy_tot (a := st E p) (b := p) htt hm9 (by omega)
  refine Run_intro Try.func111 (by unfold CallOk; kernel_rfl) rfl Try.ntmps111 (Nat.le_of_ble_eq_true rfl) ?_
  simp only [penv, Nat.reduceAdd, Nat.zero_add]
  repeat refine zz ?_
  refine o_call rfl rfl rfl (l6Start_ok hx (by omega) (p := p) (by omega) rfl) ?_
  rintro _ _ ⟨rfl, rfl⟩
  repeat refine zz ?_
  obtain ⟨s1, hs1, _⟩ := hx.seg (l := st E (p + 1)) (k := st E p) h1 (by omega)
  obtain ⟨s2, hs2, _⟩ := hx.seg (l := st E p) (k := p) hsp (by omega)
  have e1 : (E.take (st E p)).drop (st E (p + 1)) = seg E (st E (p + 1)) (st E p) := by unfold seg; rfl
  have e2 : (E.take p).drop (st E p) = seg E (st E p) p := by unfold seg; rfl
  rw [e1] at hs1
  rw [e2] at hs2
  refine W_draw (fun _ => True) (by kernel_rfl) ?_
  have hT : True := trivial
  have hk := Keep.drew w
  have hSb : True := trivial
  refine WD_take 0 rfl (by kernel_rfl) (by kernel_rfl) (by kernel_rfl) (by repeat (first | exact np_ret | refine np_then ?_ | refine np_in ?_)) rfl rfl (fun w' _ => o_move rfl) hSb ?_
  refine WD_take 1 rfl (by kernel_rfl) (by kernel_rfl) (by kernel_rfl) (by repeat (first | exact np_ret | refine np_then ?_ | refine np_in ?_)) rfl rfl (fun w' _ => o_move rfl) hSb ?_
  refine WD_take 2 rfl (by kernel_rfl) (by kernel_rfl) (by kernel_rfl) (by repeat (first | exact np_ret | refine np_then ?_ | refine np_in ?_)) rfl rfl (fun w' _ => o_move rfl) hSb ?_
  refine WD_take 4 rfl (by kernel_rfl) (by kernel_rfl) (by kernel_rfl) (by repeat (first | exact np_ret | refine np_then ?_ | refine np_in ?_)) rfl rfl (fun w' _ => o_move rfl) hSb ?_
  refine WD_take 7 rfl (by kernel_rfl) (by kernel_rfl) (by kernel_rfl) (by repeat (first | exact np_ret | refine np_then ?_ | refine np_in ?_)) rfl rfl (fun w' _ => o_move rfl) hSb ?_
  refine WD_take 8 rfl (by kernel_rfl) (by kernel_rfl) (by kernel_rfl) (by repeat (first | exact np_ret | refine np_then ?_ | refine np_in ?_)) rfl rfl (fun w' _ => o_move rfl) hSb ?_
  refine WD_take 9 rfl (by kernel_rfl) (by kernel_rfl) (by kernel_rfl) (by repeat (first | exact np_ret | refine np_then ?_ | refine np_in ?_)) rfl rfl (fun w' _ => o_move rfl) hSb ?_
  refine WD_take 10 rfl (by kernel_rfl) (by kernel_rfl) (by kernel_rfl) (by repeat (first | exact np_ret | refine np_then ?_ | refine np_in ?_)) rfl rfl (fun w' _ => o_slice_lh (l := st E p) (h := p) rfl rfl rfl (by omega) (by omega)) hSb ?_
  refine WD_one 3 (by kernel_rfl) rfl ?_
  refine o_call rfl rfl rfl (l6Start_ok (hx.keep hk) (by omega) (p := p + 1) (by omega) (by omega)) ?_
  rintro _ _ ⟨rfl, rfl⟩
  refine WL_end ⟨trivial, ?_⟩
  refine WD_take 5 rfl (by kernel_rfl) (by kernel_rfl) (by kernel_rfl) (by repeat (first | exact np_ret | refine np_then ?_ | refine np_in ?_)) rfl rfl (fun w' _ => o_slice_lh (l := st E (p + 1)) (h := st E p) rfl rfl rfl (by omega) (by omega)) hSb ?_
  refine WD_one 6 (by kernel_rfl) rfl ?_
  refine o_call rfl rfl rfl (l5Copy_own (hs1.keep hk) (by omega)) ?_
  rintro v6 w6 ⟨k6, fi6, ho6⟩
  have hz0 := hk.size_le
  replace hk := hk.keep k6
  obtain ⟨g1, t1, r1⟩ := ho6.sl (by decide)
  have d1 := t1.dom
  have l1 := fun c hc => (ho6.lt (b := c) hc).2
  refine WL_end ⟨trivial, ?_⟩
  refine WD_one 11 (by kernel_rfl) rfl ?_
  refine o_call rfl rfl rfl (l5Copy_own (hs2.keep hk) (by omega)) ?_
  rintro v7 w7 ⟨k7, fi7, ho7⟩
  have hz1 := hk.size_le
  replace hk := hk.keep k7
  replace ho6 := ho6.keep k7
  replace t1 := t1.keep k7
  obtain ⟨g2, t2, r2⟩ := ho7.sl (by decide)
  have l2 := fun c hc => (ho7.lt (b := c) hc).1
  refine WL_end ⟨trivial, ?_⟩
  refine WD_take 12 rfl (by kernel_rfl) (by kernel_rfl) (by kernel_rfl) (by repeat (first | exact np_ret | refine np_then ?_ | refine np_in ?_)) rfl rfl (fun w' _ => o_assign rfl) hSb ?_
  refine WD_take 13 rfl (by kernel_rfl) (by kernel_rfl) (by kernel_rfl) (by repeat (first | exact np_ret | refine np_then ?_ | refine np_in ?_)) rfl rfl (fun w' _ => o_assign rfl) hSb ?_
  refine WD_done (by kernel_rfl) ?_
  repeat refine zz ?_
  exact ret2 rfl rfl rfl ⟨hk, v6, v7, w6.heap.size, g1, g2, rfl, (ho6.low (by omega)).x, (ho7.low (by omega)).x, t1, t2, d1, fun b hb => r2.ge hb, l1, l2⟩

set_option maxHeartbeats 1000000 in
theorem l6Replace_ok {w : World} {v vb : Value} {E B : List Nod} {fp fb : List Nat} (hx : Sl nodeR w v E fp) (hB : Sl nodeR w vb B fb) (hex : isExpr E = true) (hBl : B.length + totN B ≤ 1000) {p : Nat} (hp : p < E.length) {i : Int} (hi : i = (p : Int)) :
    Run Try.prog 110 [v, .int .i64 i, vb] w (fun r w' => Keep w w' ∧ OwnX nodeR w' w.heap.size 74 r (putR E p B)) := by
  obtain ⟨A, n, c, rfl, hnx⟩ := hx.split
  subst hi
  obtain ⟨hl9, ht9, hm9⟩ := expr_small hex
  have hsp := st_le E (p + 1)
  have hcaps := hx.caps
  obtain ⟨s1, hs1, _⟩ := hx.hi (k := st E (p + 1)) (by omega)
  obtain ⟨s2, hs2, _⟩ := hx.lo (k := p + 1) (by omega)
  have ta := small_tot2 (E := E.take (st E (p + 1))) (fun x h => hm9 x (List.mem_of_mem_take h)) (by rw [List.length_take]; omega)
  have tb := small_tot2 (E := E.drop (p + 1)) (fun x h => hm9 x (List.mem_of_mem_drop h)) (by rw [List.length_drop]; omega)
  refine Run_intro Try.func110 (by unfold CallOk; kernel_rfl) rfl Try.ntmps110 (Nat.le_of_ble_eq_true rfl) ?_
  simp only [penv, Nat.reduceAdd, Nat.zero_add]
  repeat refine zz ?_
  refine o_call rfl rfl rfl (l6Start_ok hx (by omega) (p := p + 1) (by omega) (by omega)) ?_
  rintro _ _ ⟨rfl, rfl⟩
  repeat refine zz ?_
  refine WL_pure rfl rfl (o_slice_hi (h := st E (p + 1)) rfl rfl (by omega)) ?_
  refine o_call rfl rfl rfl (l5Copy_own hs1 (by omega)) ?_
  rintro v7 w7 ⟨k7, f7, ho7⟩
  have z7 := k7.size_le
  have hk := k7
  replace hB := hB.keep k7
  have l7 := fun c hc => (ho7.lt (b := c) hc)
  replace ho7 := ho7.x
  repeat refine zz ?_
  refine o_call rfl rfl rfl (l5Copy_own hB (by omega)) ?_
  rintro v8 w8 ⟨k8, f8, ho8⟩
  have z8 := k8.size_le
  replace hk := hk.keep k8
  replace ho7 := ho7.keep k8
  have d8 := ho8.own.dom
  have r8 := ho8.fresh
  obtain ⟨A8, n8, c8, rfl, hn8, _⟩ := ho8.split
  have sr8 := ho8.own.srcF
  repeat refine zz ?_
  refine o_appX (R := nodeR) rfl rfl rfl rfl rfl (by decide) ho7 sr8 hn8 d8 (fun b hb hm => by have := l7 b hb; have := r8.ge hm; omega) (by omega) (by omega) (by omega) ?_
  intro v9 w9 ho9 hg9 hv9
  replace hk := hk.grown hg9 (fun c hc => (ho7.lt (b := c) hc).1)
  have hl3 : (E.take (st E (p + 1)) ++ B).length ≤ 2000 := by rw [List.length_append, List.length_take]; omega
  repeat refine zz ?_
  refine WL_pure rfl rfl (o_slice_lo (l := p + 1) rfl rfl (by omega)) ?_
  have z9 := hk.size_le
  refine o_call rfl rfl rfl (l5Copy_own (hs2.keep hk) (by omega)) ?_
  rintro v10 w10 ⟨k10, f10, ho10⟩
  have l9 := fun c hc => (ho9.lt (b := c) hc)
  replace hk := hk.keep k10
  replace ho9 := ho9.keep k10
  have z10 := k10.size_le
  have d10 := ho10.own.dom
  have r10 := ho10.fresh
  obtain ⟨A10, n10, c10, rfl, hn10, _⟩ := ho10.split
  have sr10 := ho10.own.srcF
  have hl4 : (E.drop (p + 1)).length ≤ 9 := by rw [List.length_drop]; omega
  repeat refine zz ?_
  refine o_appX (R := nodeR) rfl rfl rfl rfl rfl (by decide) ho9 sr10 hn10 d10 (fun b hb hm => by have := l9 b hb; have := r10.ge hm; omega) (by omega) (by omega) (by omega) ?_
  intro v11 w11 ho11 hg11 hv11
  replace hk := hk.grown hg11 (fun c hc => (ho9.lt (b := c) hc).1)
  repeat refine zz ?_
  exact ret1 rfl rfl ⟨hk, by unfold putR; exact ho11⟩

theorem putR_mem {E q : List Nod} {p : Nat} (h : ∀ x, x ∈ E → totW x.wish ≤ 18) (hq : ∀ x, x ∈ q → totW x.wish ≤ 18) : ∀ x, x ∈ putR E p q → totW x.wish ≤ 18 := by
  intro x hx
  unfold putR at hx
  rcases List.mem_append.1 hx with hx | hx
  · rcases List.mem_append.1 hx with hx | hx
    · exact h x (List.mem_of_mem_take hx)
    · exact hq x hx
  · exact h x (List.mem_of_mem_drop hx)
theorem putR_small {E q : List Nod} {p : Nat} (h : ∀ x, x ∈ E → totW x.wish ≤ 18) (hl : E.length ≤ 9) (hq : ∀ x, x ∈ q → totW x.wish ≤ 18) (hql : q.length ≤ 20) : (putR E p q).length + totN (putR E p q) ≤ 1000 :=
  small_tot2 (putR_mem h hq) (by rw [putR_len]; omega)
theorem segM {E : List Nod} (h : ∀ x, x ∈ E → totW x.wish ≤ 18) (a b : Nat) : ∀ x, x ∈ seg E a b → totW x.wish ≤ 18 := fun x hx => h x (seg_mem hx)
theorem opM (k : Int) : ∀ x, x ∈ [opN k] → totW x.wish ≤ 18 := fun x hx => by rw [List.mem_singleton] at hx; subst hx; simp [opN, totW]
theorem appM {E F : List Nod} (h : ∀ x, x ∈ E → totW x.wish ≤ 18) (k : ∀ x, x ∈ F → totW x.wish ≤ 18) : ∀ x, x ∈ E ++ F → totW x.wish ≤ 18 := fun x hx => (List.mem_append.1 hx).elim (h x) (k x)
theorem op2M (k l : Int) : ∀ x, x ∈ [opN k, opN l] → totW x.wish ≤ 18 := appM (opM k) (opM l)
/-- what a rule's walk hands back -/
def RuleRes (w : World) (E : List Nod) (rule : Int) (p : Nat) (r : Value) (w' : World) : Prop :=
  Keep w w' ∧ ∃ u b X f, r = .tuple #[u, .bool b] ∧ Sl nodeR w' u X f ∧ X.length + totN X ≤ 1000 ∧ (b = true → applyR E rule (p : Int) = some X) ∧ (b = false → applyR E rule (p : Int) = none)
attribute [local irreducible] putR applyR partR

set_option maxHeartbeats 4000000 in
theorem l6Rule_ok {w : World} {v : Value} {E : List Nod} {fp : List Nat} (hx : Sl nodeR w v E fp) (hex : isExpr E = true) {p : Nat} (hp : p < E.length) (rule : Int) :
    Run Try.prog 63 [v, .int .i64 rule, .int .i64 (p : Int)] w (fun r w' => RuleRes w E rule p r w') := by
  obtain ⟨A, n, c, rfl, hnx⟩ := hx.split
  obtain ⟨hl9, ht9, hm9⟩ := expr_small hex
  have hrng := op_rng hex hp
  have hopc := opnds_cases hrng
  have hstl := st_lt hex hp
  have hcaps := hx.caps
  have hk := Keep.refl w
  obtain ⟨hA, vl, ul, f1, f2, hcell, _, _, _⟩ := node_get hx (i := (p : Int)) (by omega) (by omega)
  refine Run_intro Try.func63 (by unfold CallOk; kernel_rfl) rfl Try.ntmps63 (Nat.le_of_ble_eq_true rfl) ?_
  simp only [penv, Nat.reduceAdd, Nat.zero_add]
  repeat refine zz ?_
  refine W_cond rfl (fun r1 => ?_) (fun r1 => ?_)
  · simp at r1
    subst r1
    have hP := part1 E p
    repeat refine zz ?_
    refine WL_part rfl rfl (fun o1 => ?_) (fun o1 => ?_)
    · simp at o1
      obtain ⟨u1, u2, u3, u4⟩ := at_un hex hp o1
      obtain ⟨m, rfl⟩ : ∃ m, p = m + 1 := ⟨p - 1, by omega⟩
      have e1 : ((m + 1 : Nat) : Int) - 1 = (m : Int) := by omega
      rw [e1] at hP
      obtain ⟨_, vl2, ul2, g1, g2, hcell2, _, _, _⟩ := node_get hx (i := ((m + 1 : Nat) : Int) - 1) (by omega) (by omega)
      have e2 : gi E (((m + 1 : Nat) : Int) - 1) = gi E (m : Int) := by rw [e1]
      rw [e2] at hcell2
      repeat refine zz ?_
      refine W_cond rfl (fun o2 => ?_) (fun o2 => ?_)
      · simp at o2
        rw [if_pos ⟨o1, o2⟩, Nat.add_sub_cancel] at hP
        obtain ⟨w1, w2, w3, w4⟩ := at_un hex (p := m) (by omega) o2
        obtain ⟨s1, hs1, _⟩ := hx.seg (l := st E (m + 1 + 1)) (k := m) (by omega) (by omega)
        have e3 : (E.take m).drop (st E (m + 1 + 1)) = seg E (st E (m + 1 + 1)) m := by unfold seg; rfl
        rw [e3] at hs1
        repeat refine zz ?_
        refine o_call rfl rfl rfl (l6Start_ok hx (by omega) (p := m + 1 + 1) (by omega) (by omega)) ?_
        rintro _ _ ⟨rfl, rfl⟩
        repeat refine zz ?_
        rw [e1]
        refine WL_pure rfl rfl (o_slice_lh (l := st E (m + 1 + 1)) (h := m) rfl rfl rfl (by omega) (by omega)) ?_
        refine o_call rfl rfl rfl (l6Replace_ok hx hs1 hex (copy_tot (by omega) hm9 (by omega)) hp rfl) ?_
        rintro vr wr ⟨kr, hor⟩
        obtain ⟨fr, hsr⟩ := hor.sl (by decide)
        have hlen : (putR E (m + 1) (seg E (st E (m + 1 + 1)) m)).length ≤ 9 := by rw [putR_len, seg_length _ _ _ (by omega)]; omega
        repeat refine zz ?_
        exact ret2 rfl rfl rfl ⟨kr, _, true, _, fr, rfl, hsr, putR_small hm9 hl9 (segM hm9 _ _) (by have := seg_len E (st E (m + 1 + 1)) m; omega), fun _ => ap_some hex hp hP hlen, fun h => (by cases h)⟩
      · simp at o2
        rw [if_neg (fun h => o2 h.2)] at hP
        have hno := ap_none hP
        repeat refine zz ?_
        exact ret2 rfl rfl rfl ⟨hk, _, false, E, _, rfl, hx.keep hk, by omega, fun h => (by cases h), fun _ => hno⟩
    · simp at o1
      rw [if_neg (fun h => o1 h.1)] at hP
      have hno := ap_none hP
      repeat refine zz ?_
      exact ret2 rfl rfl rfl ⟨hk, _, false, E, _, rfl, hx.keep hk, by omega, fun h => (by cases h), fun _ => hno⟩
  simp at r1
  repeat refine zz ?_
  refine W_cond rfl (fun r2 => ?_) (fun r2 => ?_)
  · simp at r2
    subst r2
    have hP := part2 E p
    repeat refine zz ?_
    refine WL_part rfl rfl (fun o1 => ?_) (fun o1 => ?_)
    · simp at o1
      obtain ⟨u1, u2, u3, u4⟩ := at_un hex hp o1
      obtain ⟨m, rfl⟩ : ∃ m, p = m + 1 := ⟨p - 1, by omega⟩
      have e1 : ((m + 1 : Nat) : Int) - 1 = (m : Int) := by omega
      rw [e1, Nat.add_sub_cancel] at hP
      have hrng2 := op_rng hex (p := m) (by omega)
      have hopc2 := opnds_cases hrng2
      obtain ⟨_, vl2, ul2, g1, g2, hcell2, _, _, _⟩ := node_get hx (i := ((m + 1 : Nat) : Int) - 1) (by omega) (by omega)
      have e2 : gi E (((m + 1 : Nat) : Int) - 1) = gi E (m : Int) := by rw [e1]
      rw [e2] at hcell2
      repeat refine zz ?_
      refine WL_part rfl rfl (fun o2 => ?_) (fun o2 => ?_)
      · simp at o2
        repeat refine zz ?_
        refine W_cond rfl (fun o3 => ?_) (fun o3 => ?_)
        · simp at o3
          have o4 : opnds (gi E (m : Int)).op = 2 := by rcases hopc2 with h | h | h <;> omega
          rw [if_pos ⟨o1, o4⟩] at hP
          obtain ⟨w1, w2, w3, w4⟩ := at_bin hex (p := m) (by omega) o4
          generalize hop : (gi E (m : Int)).op = op at *
          repeat refine zz ?_
          refine o_call rfl rfl rfl (l6Parts_ok hx hex (p := m) (by omega) w2 e1) ?_
          rintro _ wq ⟨kq, ua, ub, M, fa, fb, rfl, hoa, hob, hsa, hsb, da, db, la, lb⟩
          replace hk := hk.keep kq
          have hla := seg_len E (st E (m + 1)) (st E m)
          have hlb := seg_len E (st E m) m
          replace hcell2 := hcell2.keep kq
          repeat refine zz ?_
          refine WL_pure rfl rfl (o_buildT (cs := [.int .i64 3, .int .i64 0, .int .i64 0, .int .i64 0, .slice none 0 0, .slice none 0 0]) rfl rfl) ?_
          repeat refine zz ?_
          refine o_buildSlice rfl rfl rfl rfl rfl (by simp [Value.cells]) (by omega) ?_
          intro b1 wr hal1
          have hb1 : Blk wr b1 74 [.int .i64 3, .int .i64 0, .int .i64 0, .int .i64 0, .slice none 0 0, .slice none 0 0] := by simpa [Value.cells] using hal1.blk
          replace hk := hk.keep hal1.kp
          replace hoa := hoa.keep hal1.kp
          replace hsb := hsb.keep hal1.kp
          replace hcell2 := hcell2.keep hal1.kp
          have zk1 := hk.size_le
          repeat refine zz ?_
          refine o_appX (R := nodeR) (gi := []) rfl rfl rfl rfl rfl (by decide) hoa (Blk.src (xs := [opN 3]) hb1 (opN_rows _ _)) rfl (fun b hb => by simp at hb) (fun b hb hm => by simp at hm) (by simp only [List.length_cons, List.length_nil]; omega) (by simp only [List.length_cons, List.length_nil]; omega) (by omega) ?_
          intro vx wx hox hgx hvx
          replace hk := hk.grown hgx (fun c hc => (hoa.lt (b := c) hc).1)
          have hsbx := hsb.grownN hgx (fun c hc hm => by have := la c hc; have := db c hm; omega)
          replace hcell2 : Cells wx _ _ := hcell2.grown hgx (fun ad h => by
            obtain ⟨ad', h1, h2⟩ := ea_block h
            have := hx.dom _ (hx.blocks (by decide) (by omega) ad' h1)
            exact ⟨by omega, fun c hc => by have := (hoa.lt (b := c) hc).1; omega⟩)
          have zx := hsb.dom
          have zk2 := hk.size_le
          obtain ⟨Ab, nb, cb, rfl, hnb, _⟩ := hob.split
          obtain ⟨gb, srb, gdb, gfb⟩ := hsbx.srcX
          repeat refine zz ?_
          refine o_appX (R := nodeR) rfl rfl rfl rfl rfl (by decide) hox srb hnb gdb (fun c hc hm => by
            have h1 := db c (gfb c hm)
            rcases hvx with h | h
            · rw [h] at hc; have := la c hc; omega
            · rw [h] at hc; simp only [Option.some.injEq] at hc; have := zx c (gfb c hm); omega) (by simp only [List.length_append, List.length_cons, List.length_nil]; omega) (by simp only [List.length_append, List.length_cons, List.length_nil]; omega) (by omega) ?_
          intro vy wy hoy hgy hvy
          replace hk := hk.grown hgy (fun c hc => (hox.lt (b := c) hc).1)
          replace hcell2 : Cells wy _ _ := hcell2.grown hgy (fun ad h => by
            obtain ⟨ad', h1, h2⟩ := ea_block h
            have := hx.dom _ (hx.blocks (by decide) (by omega) ad' h1)
            exact ⟨by omega, fun c hc => by have := (hox.lt (b := c) hc).1; omega⟩)
          have hks := ea_some (sz := 6) (i := ((m + 1 : Nat) : Int) - 1) hA
          repeat refine zz ?_
          refine WL_pure rfl rfl (o_buildT (cs := [.int .i64 3, .int .i64 0, .int .i64 0, .int .i64 0, .slice none 0 0, .slice none 0 0]) rfl rfl) ?_
          repeat refine zz ?_
          refine WL_pure rfl rfl (o_buildT (cs := [.int .i64 op, .int .i64 0, .int .i64 0, .int .i64 0, .slice none 0 0, .slice none 0 0]) rfl rfl) ?_
          repeat refine zz ?_
          refine o_buildSlice rfl rfl rfl rfl rfl (by simp [Value.cells]) (by omega) ?_
          intro b2 wz hal2
          have hb2 : Blk wz b2 74 ([.int .i64 3, .int .i64 0, .int .i64 0, .int .i64 0, .slice none 0 0, .slice none 0 0] ++ [.int .i64 op, .int .i64 0, .int .i64 0, .int .i64 0, .slice none 0 0, .slice none 0 0]) := by simpa [Value.cells] using hal2.blk
          replace hk := hk.keep hal2.kp
          replace hoy := hoy.keep hal2.kp
          have zk3 := hk.size_le
          repeat refine zz ?_
          refine o_appX (R := nodeR) (gi := []) rfl rfl rfl rfl rfl (by decide) hoy (Blk.src (xs := [opN 3, opN op]) hb2 (opN_rows2 _ _ _)) rfl (fun b hb => by simp at hb) (fun b hb hm => by simp at hm) (by simp only [List.length_append, List.length_cons, List.length_nil]; omega) (by simp only [List.length_append, List.length_cons, List.length_nil]; omega) (by omega) ?_
          intro vu wu hou hgu hvu
          replace hk := hk.grown hgu (fun c hc => (hoy.lt (b := c) hc).1)
          obtain ⟨fu, hsu⟩ := hou.sl (by decide)
          have zk4 := hk.size_le
          have hqm := appM (appM (appM (segM hm9 (st E (m + 1)) (st E m)) (opM 3)) (segM hm9 (st E m) m)) (op2M 3 op)
          have hql : (seg E (st E (m + 1)) (st E m) ++ [opN 3] ++ seg E (st E m) m ++ [opN 3, opN op]).length ≤ 24 := by simp only [List.length_append, List.length_cons, List.length_nil]; omega
          have hst2 : st E (m + 1 + 1) = st E (m + 1) := u2
          rw [hst2] at hP
          repeat refine zz ?_
          refine o_call rfl rfl rfl (l6Replace_ok (hx.keep hk) hsu hex (small_tot2 hqm (by omega)) hp rfl) ?_
          rintro vr wv ⟨kr, hor⟩
          replace hk := hk.keep kr
          obtain ⟨fr, hsr⟩ := hor.sl (by decide)
          obtain ⟨Ar, nr, cr, rfl, hnr⟩ := hor.split
          have hsm : (putR E (m + 1) (seg E (st E (m + 1)) (st E m) ++ [opN 3] ++ seg E (st E m) m ++ [opN 3, opN op])).length + totN (putR E (m + 1) (seg E (st E (m + 1)) (st E m) ++ [opN 3] ++ seg E (st E m) m ++ [opN 3, opN op])) ≤ 1000 := small_tot2 (putR_mem hm9 hqm) (by rw [putR_len]; omega)
          repeat refine zz ?_
          refine ret2 rfl rfl rfl ⟨hk, _, _, _, fr, rfl, hsr, hsm, fun h => ?_, fun h => ?_⟩
          · simp at h
            exact ap_some hex hp hP (by omega)
          · simp at h
            exact ap_long hP (by omega)
        · simp at o3
          have hno := ap_none (rule := 2) (p := m + 1) (E := E) (by rw [hP, if_neg (fun h => by rcases hopc2 with h2 | h2 | h2 <;> omega)])
          repeat refine zz ?_
          exact ret2 rfl rfl rfl ⟨hk, _, false, E, _, rfl, hx.keep hk, by omega, fun h => (by cases h), fun _ => hno⟩
      · simp at o2
        have hno := ap_none (rule := 2) (p := m + 1) (E := E) (by rw [hP, if_neg (fun h => by rcases hopc2 with h2 | h2 | h2 <;> omega)])
        repeat refine zz ?_
        exact ret2 rfl rfl rfl ⟨hk, _, false, E, _, rfl, hx.keep hk, by omega, fun h => (by cases h), fun _ => hno⟩
    · simp at o1
      have hno := ap_none (rule := 2) (p := p) (E := E) (by rw [hP, if_neg (fun h => o1 h.1)])
      repeat refine zz ?_
      exact ret2 rfl rfl rfl ⟨hk, _, false, E, _, rfl, hx.keep hk, by omega, fun h => (by cases h), fun _ => hno⟩
  simp at r2
  repeat refine zz ?_
  refine W_cond rfl (fun r3 => ?_) (fun r3 => ?_)
  · simp at r3
    subst r3
    have hP := part3 E p
    have hyes : opnds (gi E (p : Int)).op = 2 ∨ ¬ opnds (gi E (p : Int)).op = 2 := Decidable.em _
    repeat refine zz ?_
    refine WL_part rfl rfl (fun o1 => ?_) (fun o1 => ?_)
    · simp at o1
      have o4 : opnds (gi E (p : Int)).op = 2 := by rcases hopc with h | h | h <;> omega
      repeat refine zz ?_
      obtain ⟨w1, w2, w3, w4⟩ := at_bin hex hp o4
      repeat refine zz ?_
      refine o_call rfl rfl rfl (l6Parts_ok hx hex hp w2 rfl) ?_
      rintro _ wq ⟨kq, ua, ub, M, fa, fb, rfl, hoa, hob, hsa, hsb, da, db, la, lb⟩
      replace hk := hk.keep kq
      have hla := seg_len E (st E (p + 1)) (st E p)
      repeat refine zz ?_
      refine o_call rfl rfl rfl (l6Replace_ok (hx.keep hk) hsa hex (copy_tot (by omega) hm9 (by omega)) hp rfl) ?_
      rintro vr wr ⟨kr, hor⟩
      replace hk := hk.keep kr
      replace hsa := hsa.keep kr
      replace hsb := hsb.keep kr
      obtain ⟨fr, hsr⟩ := hor.sl (by decide)
      repeat refine zz ?_
      refine o_call rfl rfl rfl (spec_EqualExpressions_ok hsa hsb) ?_
      rintro _ ws ⟨rfl, ks⟩
      replace hk := hk.keep ks
      have hlen : (putR E p (seg E (st E (p + 1)) (st E p))).length ≤ 9 := by rw [putR_len, seg_length _ _ _ (by omega)]; omega
      repeat refine zz ?_
      refine ret2 rfl rfl rfl ⟨hk, _, _, _, fr, rfl, hsr.keep ks, putR_small hm9 hl9 (segM hm9 _ _) (by omega), fun h => ?_, fun h => ?_⟩
      · simp only [decide_eq_true_eq] at h
        rw [if_pos ⟨o4, h⟩] at hP
        exact ap_some hex hp hP hlen
      · simp only [decide_eq_false_iff_not] at h
        rw [if_neg fun hh => h hh.2] at hP
        exact ap_none hP
    simp at o1
    repeat refine zz ?_
    refine WL_part rfl rfl (fun o2 => ?_) (fun o2 => ?_)
    · simp at o2
      have o4 : opnds (gi E (p : Int)).op = 2 := by rcases hopc with h | h | h <;> omega
      repeat refine zz ?_
      obtain ⟨w1, w2, w3, w4⟩ := at_bin hex hp o4
      repeat refine zz ?_
      refine o_call rfl rfl rfl (l6Parts_ok hx hex hp w2 rfl) ?_
      rintro _ wq ⟨kq, ua, ub, M, fa, fb, rfl, hoa, hob, hsa, hsb, da, db, la, lb⟩
      replace hk := hk.keep kq
      have hla := seg_len E (st E (p + 1)) (st E p)
      repeat refine zz ?_
      refine o_call rfl rfl rfl (l6Replace_ok (hx.keep hk) hsa hex (copy_tot (by omega) hm9 (by omega)) hp rfl) ?_
      rintro vr wr ⟨kr, hor⟩
      replace hk := hk.keep kr
      replace hsa := hsa.keep kr
      replace hsb := hsb.keep kr
      obtain ⟨fr, hsr⟩ := hor.sl (by decide)
      repeat refine zz ?_
      refine o_call rfl rfl rfl (spec_EqualExpressions_ok hsa hsb) ?_
      rintro _ ws ⟨rfl, ks⟩
      replace hk := hk.keep ks
      have hlen : (putR E p (seg E (st E (p + 1)) (st E p))).length ≤ 9 := by rw [putR_len, seg_length _ _ _ (by omega)]; omega
      repeat refine zz ?_
      refine ret2 rfl rfl rfl ⟨hk, _, _, _, fr, rfl, hsr.keep ks, putR_small hm9 hl9 (segM hm9 _ _) (by omega), fun h => ?_, fun h => ?_⟩
      · simp only [decide_eq_true_eq] at h
        rw [if_pos ⟨o4, h⟩] at hP
        exact ap_some hex hp hP hlen
      · simp only [decide_eq_false_iff_not] at h
        rw [if_neg fun hh => h hh.2] at hP
        exact ap_none hP
    simp at o2
    repeat refine zz ?_
    refine W_cond rfl (fun o3 => ?_) (fun o3 => ?_)
    · simp at o3
      have o4 : opnds (gi E (p : Int)).op = 2 := by rcases hopc with h | h | h <;> omega
      obtain ⟨w1, w2, w3, w4⟩ := at_bin hex hp o4
      repeat refine zz ?_
      refine o_call rfl rfl rfl (l6Parts_ok hx hex hp w2 rfl) ?_
      rintro _ wq ⟨kq, ua, ub, M, fa, fb, rfl, hoa, hob, hsa, hsb, da, db, la, lb⟩
      replace hk := hk.keep kq
      have hla := seg_len E (st E (p + 1)) (st E p)
      repeat refine zz ?_
      refine o_call rfl rfl rfl (l6Replace_ok (hx.keep hk) hsa hex (copy_tot (by omega) hm9 (by omega)) hp rfl) ?_
      rintro vr wr ⟨kr, hor⟩
      replace hk := hk.keep kr
      replace hsa := hsa.keep kr
      replace hsb := hsb.keep kr
      obtain ⟨fr, hsr⟩ := hor.sl (by decide)
      repeat refine zz ?_
      refine o_call rfl rfl rfl (spec_EqualExpressions_ok hsa hsb) ?_
      rintro _ ws ⟨rfl, ks⟩
      replace hk := hk.keep ks
      have hlen : (putR E p (seg E (st E (p + 1)) (st E p))).length ≤ 9 := by rw [putR_len, seg_length _ _ _ (by omega)]; omega
      repeat refine zz ?_
      refine ret2 rfl rfl rfl ⟨hk, _, _, _, fr, rfl, hsr.keep ks, putR_small hm9 hl9 (segM hm9 _ _) (by omega), fun h => ?_, fun h => ?_⟩
      · simp only [decide_eq_true_eq] at h
        rw [if_pos ⟨o4, h⟩] at hP
        exact ap_some hex hp hP hlen
      · simp only [decide_eq_false_iff_not] at h
        rw [if_neg fun hh => h hh.2] at hP
        exact ap_none hP
    · simp at o3
      have hno := ap_none (rule := 3) (p := p) (E := E) (by rw [hP, if_neg (fun h => by rcases hopc with h2 | h2 | h2 <;> omega)])
      repeat refine zz ?_
      exact ret2 rfl rfl rfl ⟨hk, _, false, E, _, rfl, hx.keep hk, by omega, fun h => (by cases h), fun _ => hno⟩
  simp at r3
  repeat refine zz ?_
  refine W_cond rfl (fun r4 => ?_) (fun r4 => ?_)
  · simp at r4
    subst r4
    have hP := part4 E p
    repeat refine zz ?_
    refine WL_part rfl rfl (fun o1 => ?_) (fun o1 => ?_)
    · simp at o1
      have o4 : opnds (gi E (p : Int)).op = 2 := by rcases hopc with h | h | h <;> omega
      have o5 : (gi E (p : Int)).op = 1 ∨ (gi E (p : Int)).op = 4 := .inl o1
      repeat refine zz ?_
      obtain ⟨w1, w2, w3, w4⟩ := at_bin hex hp o4
      rw [if_pos o5] at hP
      generalize hop : (gi E (p : Int)).op = op at *
      repeat refine zz ?_
      refine o_call rfl rfl rfl (l6Parts_ok hx hex hp w2 rfl) ?_
      rintro _ wq ⟨kq, ua, ub, M, fa, fb, rfl, hoa, hob, hsa, hsb, da, db, la, lb⟩
      replace hk := hk.keep kq
      have hla := seg_len E (st E (p + 1)) (st E p)
      have hlb := seg_len E (st E p) p
      have zk0 := hk.size_le
      obtain ⟨Aa, na, ca, rfl, hna, _⟩ := hoa.split
      obtain ⟨ga, sra, gda, gfa⟩ := hsa.srcX
      repeat refine zz ?_
      refine o_appX (R := nodeR) rfl rfl rfl rfl rfl (by decide) hob sra hna gda (fun c hc hm => by have h1 := da c (gfa c hm); have := lb c hc; omega) (by omega) (by omega) (by omega) ?_
      intro vy wy hoy hgy hvy
      replace hk := hk.grown hgy (fun c hc => (hob.lt (b := c) hc).1)
      repeat refine zz ?_
      refine WL_pure rfl rfl (o_buildT (cs := [.int .i64 op, .int .i64 0, .int .i64 0, .int .i64 0, .slice none 0 0, .slice none 0 0]) rfl rfl) ?_
      repeat refine zz ?_
      refine o_buildSlice rfl rfl rfl rfl rfl (by simp [Value.cells]) (by omega) ?_
      intro b2 wz hal2
      have hb2 : Blk wz b2 74 [.int .i64 op, .int .i64 0, .int .i64 0, .int .i64 0, .slice none 0 0, .slice none 0 0] := by simpa [Value.cells] using hal2.blk
      replace hk := hk.keep hal2.kp
      replace hoy := hoy.keep hal2.kp
      have zk3 := hk.size_le
      repeat refine zz ?_
      refine o_appX (R := nodeR) (gi := []) rfl rfl rfl rfl rfl (by decide) hoy (Blk.src (xs := [opN op]) hb2 (opN_rows _ _)) rfl (fun b hb => by simp at hb) (fun b hb hm => by simp at hm) (by simp only [List.length_append, List.length_cons, List.length_nil]; omega) (by simp only [List.length_append, List.length_cons, List.length_nil]; omega) (by omega) ?_
      intro vu wu hou hgu hvu
      replace hk := hk.grown hgu (fun c hc => (hoy.lt (b := c) hc).1)
      obtain ⟨fu, hsu⟩ := hou.sl (by decide)
      have hqm := appM (appM (segM hm9 (st E p) p) (segM hm9 (st E (p + 1)) (st E p))) (opM op)
      have hql : (seg E (st E p) p ++ seg E (st E (p + 1)) (st E p) ++ [opN op]).length = p - st E (p + 1) + 1 := by simp only [List.length_append, List.length_cons, List.length_nil]; rw [seg_length _ _ _ (by omega), seg_length _ _ _ (by omega)]; omega
      repeat refine zz ?_
      refine o_call rfl rfl rfl (l6Replace_ok (hx.keep hk) hsu hex (small_tot2 hqm (by omega)) hp rfl) ?_
      rintro vr wv ⟨kr, hor⟩
      replace hk := hk.keep kr
      obtain ⟨fr, hsr⟩ := hor.sl (by decide)
      have hlen : (putR E p (seg E (st E p) p ++ seg E (st E (p + 1)) (st E p) ++ [opN op])).length ≤ 9 := by rw [putR_len]; omega
      repeat refine zz ?_
      exact ret2 rfl rfl rfl ⟨hk, _, true, _, fr, rfl, hsr, putR_small hm9 hl9 hqm (by omega), fun _ => ap_some hex hp hP hlen, fun h => (by cases h)⟩
    simp at o1
    repeat refine zz ?_
    refine W_cond rfl (fun o2 => ?_) (fun o2 => ?_)
    · simp at o2
      have o4 : opnds (gi E (p : Int)).op = 2 := by rcases hopc with h | h | h <;> omega
      have o5 : (gi E (p : Int)).op = 1 ∨ (gi E (p : Int)).op = 4 := .inr o2
      obtain ⟨w1, w2, w3, w4⟩ := at_bin hex hp o4
      rw [if_pos o5] at hP
      generalize hop : (gi E (p : Int)).op = op at *
      repeat refine zz ?_
      refine o_call rfl rfl rfl (l6Parts_ok hx hex hp w2 rfl) ?_
      rintro _ wq ⟨kq, ua, ub, M, fa, fb, rfl, hoa, hob, hsa, hsb, da, db, la, lb⟩
      replace hk := hk.keep kq
      have hla := seg_len E (st E (p + 1)) (st E p)
      have hlb := seg_len E (st E p) p
      have zk0 := hk.size_le
      obtain ⟨Aa, na, ca, rfl, hna, _⟩ := hoa.split
      obtain ⟨ga, sra, gda, gfa⟩ := hsa.srcX
      repeat refine zz ?_
      refine o_appX (R := nodeR) rfl rfl rfl rfl rfl (by decide) hob sra hna gda (fun c hc hm => by have h1 := da c (gfa c hm); have := lb c hc; omega) (by omega) (by omega) (by omega) ?_
      intro vy wy hoy hgy hvy
      replace hk := hk.grown hgy (fun c hc => (hob.lt (b := c) hc).1)
      repeat refine zz ?_
      refine WL_pure rfl rfl (o_buildT (cs := [.int .i64 op, .int .i64 0, .int .i64 0, .int .i64 0, .slice none 0 0, .slice none 0 0]) rfl rfl) ?_
      repeat refine zz ?_
      refine o_buildSlice rfl rfl rfl rfl rfl (by simp [Value.cells]) (by omega) ?_
      intro b2 wz hal2
      have hb2 : Blk wz b2 74 [.int .i64 op, .int .i64 0, .int .i64 0, .int .i64 0, .slice none 0 0, .slice none 0 0] := by simpa [Value.cells] using hal2.blk
      replace hk := hk.keep hal2.kp
      replace hoy := hoy.keep hal2.kp
      have zk3 := hk.size_le
      repeat refine zz ?_
      refine o_appX (R := nodeR) (gi := []) rfl rfl rfl rfl rfl (by decide) hoy (Blk.src (xs := [opN op]) hb2 (opN_rows _ _)) rfl (fun b hb => by simp at hb) (fun b hb hm => by simp at hm) (by simp only [List.length_append, List.length_cons, List.length_nil]; omega) (by simp only [List.length_append, List.length_cons, List.length_nil]; omega) (by omega) ?_
      intro vu wu hou hgu hvu
      replace hk := hk.grown hgu (fun c hc => (hoy.lt (b := c) hc).1)
      obtain ⟨fu, hsu⟩ := hou.sl (by decide)
      have hqm := appM (appM (segM hm9 (st E p) p) (segM hm9 (st E (p + 1)) (st E p))) (opM op)
      have hql : (seg E (st E p) p ++ seg E (st E (p + 1)) (st E p) ++ [opN op]).length = p - st E (p + 1) + 1 := by simp only [List.length_append, List.length_cons, List.length_nil]; rw [seg_length _ _ _ (by omega), seg_length _ _ _ (by omega)]; omega
      repeat refine zz ?_
      refine o_call rfl rfl rfl (l6Replace_ok (hx.keep hk) hsu hex (small_tot2 hqm (by omega)) hp rfl) ?_
      rintro vr wv ⟨kr, hor⟩
      replace hk := hk.keep kr
      obtain ⟨fr, hsr⟩ := hor.sl (by decide)
      have hlen : (putR E p (seg E (st E p) p ++ seg E (st E (p + 1)) (st E p) ++ [opN op])).length ≤ 9 := by rw [putR_len]; omega
      repeat refine zz ?_
      exact ret2 rfl rfl rfl ⟨hk, _, true, _, fr, rfl, hsr, putR_small hm9 hl9 hqm (by omega), fun _ => ap_some hex hp hP hlen, fun h => (by cases h)⟩
    · simp at o2
      have hno := ap_none (rule := 4) (p := p) (E := E) (by rw [hP, if_neg (fun h => by omega)])
      repeat refine zz ?_
      exact ret2 rfl rfl rfl ⟨hk, _, false, E, _, rfl, hx.keep hk, by omega, fun h => (by cases h), fun _ => hno⟩
  simp at r4
  have hno := ap_none (part0 (E := E) r1 r2 r3 r4 p)
  repeat refine zz ?_
  exact ret2 rfl rfl rfl ⟨hk, _, false, E, _, rfl, hx.keep hk, by omega, fun h => (by cases h), fun _ => hno⟩
end Go.E

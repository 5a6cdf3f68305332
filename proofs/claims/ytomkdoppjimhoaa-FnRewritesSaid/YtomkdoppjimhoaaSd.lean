/-
  Contracts: rewriting at a place, by the program. Conditions: as stated.
-/
import Derived.Test.YtomkdoppjimhoaaSc
set_option linter.unusedVariables false
set_option linter.unusedSimpArgs false
namespace Go.E
open Go Go.RowKit Go.Proofs
theorem part_base {E : List Nod} {p : Nat} (h : (gi E (p : Int)).op = 0) (rule : Int) : partR E rule p = none := by
  unfold partR
  rw [h]
  by_cases h1 : rule = 1
  · rw [if_pos h1, if_neg (by intro h; exact absurd h.1 (by decide))]
  by_cases h2 : rule = 2
  · rw [if_neg h1, if_pos h2, if_neg (by intro h; exact absurd h.1 (by decide))]
  by_cases h3 : rule = 3
  · rw [if_neg h1, if_neg h2, if_pos h3, if_neg (by intro h; exact absurd h.1 (by decide))]
  by_cases h4 : rule = 4
  · rw [if_neg h1, if_neg h2, if_neg h3, if_pos h4, if_neg (by decide)]
  · rw [if_neg h1, if_neg h2, if_neg h3, if_neg h4]
/-- what the walk of 'rewritten' hands back -/
def PartRes (w : World) (E : List Nod) (rule : Int) (p : Nat) (r : Value) (w' : World) : Prop :=
  Keep w w' ∧ ∃ u b, r = .tuple #[u, .bool b] ∧ (b = true → ∃ q f, partR E rule p = some q ∧ Sl nodeR w' u q f ∧ q.length ≤ 24 ∧ ∀ x, x ∈ q → totW x.wish ≤ 18) ∧ (b = false → partR E rule p = none)
theorem part_cases {E : List Nod} {rule : Int} {p : Nat} (h1 : rule ≠ 1) (h2 : rule ≠ 2) (h3 : rule ≠ 3) (h4 : rule ≠ 4) : partR E rule p = none := part0 h1 h2 h3 h4 p
attribute [local irreducible] W WL WD WE thenE inE retQ PureOp Keep Cell Cells Blk Sl Rows Own Src Fresh
attribute [local irreducible] opnds stR hitR isExpr seg st putR applyR partR


set_option maxHeartbeats 8000000 in
theorem rewritten_ok {w : World} {v : Value} {E : List Nod} {fp : List Nat} (hx : Sl nodeR w v E fp) (hex : isExpr E = true) {p : Nat} (hp : p < E.length) (rule : Int) :
    Run Try.prog 60 [v, .int .i64 rule, .int .i64 (p : Int)] w (fun r w' => PartRes w E rule p r w') := by
  obtain ⟨A, n, c, rfl, hnx⟩ := hx.split
  obtain ⟨hl9, ht9, hm9⟩ := expr_small hex
  have hrng := op_rng hex hp
  have hopc := opnds_cases hrng
  have hstl := st_lt hex hp
  have hcaps := hx.caps
  obtain ⟨hA, vl, ul, f1, f2, hcell, _, _, _⟩ := node_get hx (i := (p : Int)) (by omega) (by omega)
  refine Run_intro Try.func60 (by unfold CallOk; kernel_rfl) rfl Try.ntmps60 (Nat.le_of_ble_eq_true rfl) ?_
  simp only [penv, Nat.reduceAdd, Nat.zero_add]
  repeat refine zz ?_
  refine W_cond rfl (fun h0 => ?_) (fun h0 => ?_)
  · simp at h0
    have hno := part_base h0 rule
    repeat refine zz ?_
    exact ret2 rfl rfl rfl ⟨Keep.refl _, _, false, rfl, fun h => (by cases h), fun _ => hno⟩
  simp at h0
  have hhit : 1 ≤ p ∧ hitR (E.take p).reverse 1 := by
    rcases hopc with h | h | h
    · exact absurd h.1 h0
    · obtain ⟨a, _, _, b⟩ := at_un hex hp h.1; exact ⟨a, b⟩
    · obtain ⟨a, _, _, b⟩ := at_bin hex hp h.2; exact ⟨a, b⟩
  repeat refine zz ?_
  refine o_call rfl rfl rfl (start_ok hx (by omega) hp (hit_at hex hp) rfl) ?_
  rintro _ _ ⟨rfl, rfl⟩
  repeat refine zz ?_
  refine o_call rfl rfl rfl (start_ok hx (by omega) (p := p - 1) (by omega) (by rw [Nat.sub_add_cancel hhit.1]; exact hhit.2) (by omega)) ?_
  rintro _ _ ⟨rfl, rfl⟩
  rw [Nat.sub_add_cancel hhit.1]
  by_cases r1 : rule = 1
  · subst r1
    have hP := part1 E p
    repeat refine zz ?_
    refine WL_part rfl rfl (fun o1 => ?_) (fun o1 => ?_)
    · simp at o1
      obtain ⟨m, rfl⟩ : ∃ m, p = m + 1 := ⟨p - 1, by omega⟩
      have e1 : ((m + 1 : Nat) : Int) - 1 = (m : Int) := by omega
      rw [e1, Nat.add_sub_cancel] at hP
      obtain ⟨_, vl2, ul2, g1, g2, hcell2, _, _, _⟩ := node_get hx (i := ((m + 1 : Nat) : Int) - 1) (by omega) (by omega)
      have e2 : gi E (((m + 1 : Nat) : Int) - 1) = gi E (m : Int) := by rw [e1]
      rw [e2] at hcell2
      repeat refine zz ?_
      refine W_cond rfl (fun o2 => ?_) (fun o2 => ?_)
      · simp at o2
        rw [if_pos ⟨o1, o2⟩] at hP
        obtain ⟨_, x2, _, _⟩ := at_un hex hp o1
        obtain ⟨w1, w2, w3, w4⟩ := at_un hex (p := m) (by omega) o2
        obtain ⟨s1, hs1, _⟩ := hx.seg (l := st E (m + 1 + 1)) (k := m) (by omega) (by omega)
        have e3 : (E.take m).drop (st E (m + 1 + 1)) = seg E (st E (m + 1 + 1)) m := by unfold seg; rfl
        rw [e3] at hs1
        repeat refine zz ?_
        rw [e1]
        refine WL_pure rfl rfl (o_slice_lh (l := st E (m + 1 + 1)) (h := m) rfl rfl rfl (by omega) (by omega)) ?_
        repeat refine zz ?_
        exact ret2 rfl rfl rfl ⟨Keep.refl _, _, true, rfl, fun _ => ⟨_, s1, hP, hs1, by have := seg_len E (st E (m + 1 + 1)) m; omega, segM hm9 _ _⟩, fun h => (by cases h)⟩
      · simp at o2
        have hno : partR E 1 (m + 1) = none := by rw [hP, if_neg (fun h => o2 h.2)]
        repeat refine zz ?_
        refine W_quiet (Keep w) (by kernel_rfl) (by kernel_rfl) (Keep.drew _) ?_
        repeat refine qq ?_
        intro wz kz 
        repeat refine zz ?_
        exact ret2 rfl rfl rfl ⟨kz, _, false, rfl, fun h => (by cases h), fun _ => hno⟩
    · simp at o1
      have hno : partR E 1 p = none := by rw [hP, if_neg (fun h => o1 h.1)]
      repeat refine zz ?_
      refine W_quiet (Keep w) (by kernel_rfl) (by kernel_rfl) (Keep.drew _) ?_
      repeat refine qq ?_
      intro wz kz 
      repeat refine zz ?_
      exact ret2 rfl rfl rfl ⟨kz, _, false, rfl, fun h => (by cases h), fun _ => hno⟩
  by_cases r2 : rule = 2
  · subst r2
    have hP := part2 E p
    repeat refine zz ?_
    refine WL_part rfl rfl (fun o1 => ?_) (fun o1 => ?_)
    · simp at o1
      obtain ⟨x1, x2, _, _⟩ := at_un hex hp o1
      obtain ⟨m, rfl⟩ : ∃ m, p = m + 1 := ⟨p - 1, by omega⟩
      have e1 : ((m + 1 : Nat) : Int) - 1 = (m : Int) := by omega
      rw [e1, Nat.add_sub_cancel] at hP
      obtain ⟨_, vl2, ul2, g1, g2, hcell2, _, _, _⟩ := node_get hx (i := ((m + 1 : Nat) : Int) - 1) (by omega) (by omega)
      have e2 : gi E (((m + 1 : Nat) : Int) - 1) = gi E (m : Int) := by rw [e1]
      rw [e2] at hcell2
      repeat refine zz ?_
      refine o_call rfl rfl rfl (operands_ok _ _) ?_
      rintro _ _ ⟨rfl, rfl⟩
      repeat refine zz ?_
      refine W_cond rfl (fun o2 => ?_) (fun o2 => ?_)
      · simp at o2
        rw [if_pos ⟨o1, o2⟩] at hP
        obtain ⟨w1, w2, w3, w4⟩ := at_bin hex (p := m) (by omega) o2
        obtain ⟨k, rfl⟩ : ∃ k, m = k + 1 := ⟨m - 1, by omega⟩
        generalize hop : (gi E ((k + 1 : Nat) : Int)).op = op at *
        obtain ⟨s1, hs1, _⟩ := hx.seg (l := st E (k + 1 + 1 + 1)) (k := st E (k + 1)) (by omega) (by omega)
        obtain ⟨s2, hs2, _⟩ := hx.seg (l := st E (k + 1)) (k := k + 1) (by omega) (by omega)
        have e3 : (E.take (st E (k + 1))).drop (st E (k + 1 + 1 + 1)) = seg E (st E (k + 1 + 1 + 1)) (st E (k + 1)) := by unfold seg; rfl
        have e4 : (E.take (k + 1)).drop (st E (k + 1)) = seg E (st E (k + 1)) (k + 1) := by unfold seg; rfl
        rw [e3] at hs1
        rw [e4] at hs2
        have hla := seg_length E (st E (k + 1 + 1 + 1)) (st E (k + 1)) (by omega)
        have hlb := seg_length E (st E (k + 1)) (k + 1) (by omega)
        repeat refine zz ?_
        refine o_call rfl rfl rfl (start_ok hx (by omega) (p := k) (by omega) w4 (by omega)) ?_
        rintro _ _ ⟨rfl, rfl⟩
        repeat refine zz ?_
        refine o_buildSlice rfl rfl rfl rfl rfl (by intro p hp; cases hp) (by omega) ?_
        intro bO wO halO
        have hkO := halO.kp
        have zO := halO.b_eq
        have hk := hkO
        have ho1 : OwnX nodeR wO w.heap.size 74 (.slice (some ⟨bO, 0, none⟩) 0 0) [] := OwnX.made halO.blk (by omega)
        have hz1 := hk.size_le
        obtain ⟨gA, srA, gdA, gfA⟩ := (hs1.keep hk).srcX
        have dA := hs1.dom
        repeat refine zz ?_
        refine WL_pure rfl rfl (o_slice_lh (l := st E (k + 1 + 1 + 1)) (h := st E (k + 1)) rfl rfl rfl (by omega) (by omega)) ?_
        refine o_appX (R := nodeR) rfl rfl rfl rfl rfl (by decide) ho1 srA (by omega) gdA (fun c hc hm => by have := dA c (gfA c hm); have := (ho1.lt (b := c) hc).1; omega) (by simp only [List.length_nil]; omega) (by simp only [List.length_nil]; omega) (by omega) ?_
        intro v2 w2' ho2 hg2 hv2
        rw [List.nil_append] at ho2
        replace hk := hk.grown hg2 (fun c hc => (ho1.lt (b := c) hc).1)
        repeat refine zz ?_
        refine W_draw (fun _ => True) (by kernel_rfl) ?_
        have hT : True := trivial
        replace hk := hk.keep (Keep.drew w2')
        replace ho2 := ho2.keep (Keep.drew w2')
        have hSb : True := trivial
        have hz2 := hk.size_le
        refine WD_take 0 rfl (by kernel_rfl) (by kernel_rfl) (by kernel_rfl) (by repeat (first | exact np_ret | refine np_then ?_ | refine np_in ?_)) rfl rfl (fun w' _ => o_move rfl) hSb ?_
        refine WD_take 1 rfl (by kernel_rfl) (by kernel_rfl) (by kernel_rfl) (by repeat (first | exact np_ret | refine np_then ?_ | refine np_in ?_)) rfl rfl (fun w' _ => o_buildT (cs := [.int .i64 3, .int .i64 0, .int .i64 0, .int .i64 0, .slice none 0 0, .slice none 0 0]) rfl rfl) hSb ?_
        refine WD_take 4 rfl (by kernel_rfl) (by kernel_rfl) (by kernel_rfl) (by repeat (first | exact np_ret | refine np_then ?_ | refine np_in ?_)) rfl rfl (fun w' _ => o_move rfl) hSb ?_
        refine WD_take 5 rfl (by kernel_rfl) (by kernel_rfl) (by kernel_rfl) (by repeat (first | exact np_ret | refine np_then ?_ | refine np_in ?_)) rfl rfl (fun w' _ => o_move rfl) hSb ?_
        refine WD_take 6 rfl (by kernel_rfl) (by kernel_rfl) (by kernel_rfl) (by repeat (first | exact np_ret | refine np_then ?_ | refine np_in ?_)) rfl rfl (fun w' _ => o_move rfl) hSb ?_
        refine WD_take 7 rfl (by kernel_rfl) (by kernel_rfl) (by kernel_rfl) (by repeat (first | exact np_ret | refine np_then ?_ | refine np_in ?_)) rfl rfl (fun w' _ => o_sub rfl rfl (by omega)) hSb ?_
        rw [e1]
        refine WD_take 8 rfl (by kernel_rfl) (by kernel_rfl) (by kernel_rfl) (by repeat (first | exact np_ret | refine np_then ?_ | refine np_in ?_)) rfl rfl (fun w' _ => o_slice_lh (l := st E (k + 1)) (h := k + 1) rfl rfl rfl (by omega) (by omega)) hSb ?_
        refine WD_one 2 (by kernel_rfl) rfl ?_
        refine o_buildSlice rfl rfl rfl rfl rfl (by simp [Value.cells]) (by omega) ?_
        intro b3 w3' hal3
        have hb3 : Blk w3' b3 74 [.int .i64 3, .int .i64 0, .int .i64 0, .int .i64 0, .slice none 0 0, .slice none 0 0] := by simpa [Value.cells] using hal3.blk
        replace hk := hk.keep hal3.kp
        replace ho2 := ho2.keep hal3.kp
        have hz3 := hk.size_le
        refine WL_end ⟨trivial, ?_⟩
        refine WD_one 3 (by kernel_rfl) rfl ?_
        refine o_appX (R := nodeR) (gi := []) rfl rfl rfl rfl rfl (by decide) ho2 (Blk.src (xs := [opN 3]) hb3 (opN_rows _ _)) rfl (fun b hb => by simp at hb) (fun b hb hm => by simp at hm) (by simp only [List.length_cons, List.length_nil]; omega) (by simp only [List.length_cons, List.length_nil]; omega) (by omega) ?_
        intro v4 w4' ho4 hg4 hv4
        replace hk := hk.grown hg4 (fun c hc => (ho2.lt (b := c) hc).1)
        have hz4 := hk.size_le
        refine WL_end ⟨trivial, ?_⟩
        refine WD_one 9 (by kernel_rfl) rfl ?_
        obtain ⟨gB, srB, gdB, gfB⟩ := (hs2.keep hk).srcX
        have dB := hs2.dom
        refine o_appX (R := nodeR) rfl rfl rfl rfl rfl (by decide) ho4 srB (by omega) gdB (fun c hc hm => by have := dB c (gfB c hm); have := (ho4.lt (b := c) hc).1; omega) (by simp only [List.length_append, List.length_cons, List.length_nil]; omega) (by simp only [List.length_append, List.length_cons, List.length_nil]; omega) (by omega) ?_
        intro v5 w5' ho5 hg5 hv5
        replace hk := hk.grown hg5 (fun c hc => (ho4.lt (b := c) hc).1)
        refine WL_end ⟨trivial, ?_⟩
        refine WD_take 10 rfl (by kernel_rfl) (by kernel_rfl) (by kernel_rfl) (by repeat (first | exact np_ret | refine np_then ?_ | refine np_in ?_)) rfl rfl (fun w' _ => o_assign rfl) hSb ?_
        refine WD_done (by kernel_rfl) ?_
        obtain ⟨_, vl3, ul3, g3, g4, hcell3, _, _, _⟩ := node_get (hx.keep hk) (i := ((k + 1 + 1 : Nat) : Int) - 1) (by omega) (by omega)
        rw [e2, hop] at hcell3
        repeat refine zz ?_
        refine WL_pure rfl rfl (o_buildT (cs := [.int .i64 3, .int .i64 0, .int .i64 0, .int .i64 0, .slice none 0 0, .slice none 0 0]) rfl rfl) ?_
        repeat refine zz ?_
        refine WL_pure rfl rfl (o_buildT (cs := [.int .i64 op, .int .i64 0, .int .i64 0, .int .i64 0, .slice none 0 0, .slice none 0 0]) rfl rfl) ?_
        repeat refine zz ?_
        refine o_buildSlice rfl rfl rfl rfl rfl (by simp [Value.cells]) (by omega) ?_
        intro b6 w6' hal6
        have hb6 : Blk w6' b6 74 ([.int .i64 3, .int .i64 0, .int .i64 0, .int .i64 0, .slice none 0 0, .slice none 0 0] ++ [.int .i64 op, .int .i64 0, .int .i64 0, .int .i64 0, .slice none 0 0, .slice none 0 0]) := by simpa [Value.cells] using hal6.blk
        replace hk := hk.keep hal6.kp
        replace ho5 := ho5.keep hal6.kp
        have hz6 := hk.size_le
        repeat refine zz ?_
        refine o_appX (R := nodeR) (gi := []) rfl rfl rfl rfl rfl (by decide) ho5 (Blk.src (xs := [opN 3, opN op]) hb6 (opN_rows2 _ _ _)) rfl (fun b hb => by simp at hb) (fun b hb hm => by simp at hm) (by simp only [List.length_append, List.length_cons, List.length_nil]; omega) (by simp only [List.length_append, List.length_cons, List.length_nil]; omega) (by omega) ?_
        intro v7 w7' ho7 hg7 hv7
        replace hk := hk.grown hg7 (fun c hc => (ho5.lt (b := c) hc).1)
        obtain ⟨f7, hs7⟩ := ho7.sl (by decide)
        repeat refine zz ?_
        exact ret2 rfl rfl rfl ⟨hk, _, true, rfl, fun _ => ⟨_, f7, hP, hs7, by simp only [List.length_append, List.length_cons, List.length_nil]; omega, appM (appM (appM (segM hm9 _ _) (opM 3)) (segM hm9 _ _)) (op2M 3 op)⟩, fun h => (by cases h)⟩
      · simp at o2
        have hno : partR E 2 (m + 1) = none := by rw [hP, if_neg (fun h => o2 h.2)]
        repeat refine zz ?_
        refine W_quiet (Keep w) (by kernel_rfl) (by kernel_rfl) (Keep.drew _) ?_
        repeat refine qq ?_
        intro wz kz 
        repeat refine zz ?_
        exact ret2 rfl rfl rfl ⟨kz, _, false, rfl, fun h => (by cases h), fun _ => hno⟩
    · simp at o1
      have hno : partR E 2 p = none := by rw [hP, if_neg (fun h => o1 h.1)]
      repeat refine zz ?_
      refine W_quiet (Keep w) (by kernel_rfl) (by kernel_rfl) (Keep.drew _) ?_
      repeat refine qq ?_
      intro wz kz 
      repeat refine zz ?_
      exact ret2 rfl rfl rfl ⟨kz, _, false, rfl, fun h => (by cases h), fun _ => hno⟩
  by_cases r3 : rule = 3
  · subst r3
    have hP := part3 E p
    repeat refine zz ?_
    refine W_quiet (Keep w) (by kernel_rfl) (by kernel_rfl) (Keep.drew _) ?_
    repeat refine qq ?_
    refine WQ_call rfl rfl rfl (fun w' hw' => (operands_ok _ _).kp hw') ?_
    repeat refine qq ?_
    refine WQ_part rfl rfl (fun o1 => ?_) (fun o1 => ?_)
    · simp at o1
      obtain ⟨w1, w2, w3, w4⟩ := at_bin hex hp o1
      obtain ⟨s1, hs1, _⟩ := hx.seg (l := st E (p + 1)) (k := st E p) w2 (by omega)
      obtain ⟨s2, hs2, _⟩ := hx.seg (l := st E p) (k := p) (by omega) (by omega)
      have e3 : (E.take (st E p)).drop (st E (p + 1)) = seg E (st E (p + 1)) (st E p) := by unfold seg; rfl
      have e4 : (E.take p).drop (st E p) = seg E (st E p) p := by unfold seg; rfl
      rw [e3] at hs1
      rw [e4] at hs2
      have hla := seg_len E (st E (p + 1)) (st E p)
      repeat refine qq ?_
      refine WQ_pure rfl rfl (fun _ _ => o_slice_lh (l := st E (p + 1)) (h := st E p) rfl rfl rfl (by omega) (by omega)) ?_
      repeat refine qq ?_
      refine WQ_pure rfl rfl (fun _ _ => o_slice_lh (l := st E p) (h := p) rfl rfl rfl (by omega) (by omega)) ?_
      refine WQ_call rfl rfl rfl (fun w' hw' => (impl_EqualExpressions_ok (hs1.keep hw') (hs2.keep hw')).kk hw') ?_
      repeat refine qq ?_
      intro wz kz 
      repeat refine zz ?_
      refine W_cond rfl (fun o2 => ?_) (fun o2 => ?_)
      · simp at o2
        rw [if_pos ⟨o1, o2⟩] at hP
        repeat refine zz ?_
        refine WL_pure rfl rfl (o_slice_lh (l := st E (p + 1)) (h := st E p) rfl rfl rfl (by omega) (by omega)) ?_
        repeat refine zz ?_
        exact ret2 rfl rfl rfl ⟨kz, _, true, rfl, fun _ => ⟨_, s1, hP, hs1.keep kz, by omega, segM hm9 _ _⟩, fun h => (by cases h)⟩
      · simp at o2
        have hno : partR E 3 p = none := by rw [hP, if_neg (fun h => o2 h.2)]
        repeat refine zz ?_
        exact ret2 rfl rfl rfl ⟨kz, _, false, rfl, fun h => (by cases h), fun _ => hno⟩
    · simp at o1
      have hno : partR E 3 p = none := by rw [hP, if_neg (fun h => o1 h.1)]
      repeat refine qq ?_
      intro wz kz 
      repeat refine zz ?_
      exact ret2 rfl rfl rfl ⟨kz, _, false, rfl, fun h => (by cases h), fun _ => hno⟩
  by_cases r4 : rule = 4
  · subst r4
    have hP := part4 E p
    repeat refine zz ?_
    refine W_quiet (Keep w) (by kernel_rfl) (by kernel_rfl) (Keep.drew _) ?_
    repeat refine qq ?_
    intro wz kz 
    repeat refine zz ?_
    refine WL_part rfl rfl (fun o1 => ?_) (fun o1 => ?_)
    · simp at o1
      have o4 : (gi E (p : Int)).op = 1 ∨ (gi E (p : Int)).op = 4 := .inl o1
      repeat refine zz ?_
      have o5 : opnds (gi E (p : Int)).op = 2 := by rcases hopc with h | h | h <;> omega
      rw [if_pos o4] at hP
      obtain ⟨w1, w2, w3, w4⟩ := at_bin hex hp o5
      generalize hop : (gi E (p : Int)).op = op at *
      obtain ⟨s1, hs1, _⟩ := hx.seg (l := st E (p + 1)) (k := st E p) w2 (by omega)
      obtain ⟨s2, hs2, _⟩ := hx.seg (l := st E p) (k := p) (by omega) (by omega)
      have e3 : (E.take (st E p)).drop (st E (p + 1)) = seg E (st E (p + 1)) (st E p) := by unfold seg; rfl
      have e4 : (E.take p).drop (st E p) = seg E (st E p) p := by unfold seg; rfl
      rw [e3] at hs1
      rw [e4] at hs2
      have hla := seg_length E (st E (p + 1)) (st E p) (by omega)
      have hlb := seg_length E (st E p) p (by omega)
      have dA := hs1.dom
      have dB := hs2.dom
      repeat refine zz ?_
      refine o_buildSlice rfl rfl rfl rfl rfl (by intro p hp; cases hp) (by omega) ?_
      intro bO wO halO
      have hkO := halO.kp
      have zO := halO.b_eq
      have hk := kz.keep hkO
      have hzz := kz.size_le
      have ho1 : OwnX nodeR wO w.heap.size 74 (.slice (some ⟨bO, 0, none⟩) 0 0) [] := OwnX.made halO.blk (by omega)
      have hz1 := hk.size_le
      obtain ⟨gB, srB, gdB, gfB⟩ := (hs2.keep hk).srcX
      repeat refine zz ?_
      refine WL_pure rfl rfl (o_slice_lh (l := st E p) (h := p) rfl rfl rfl (by omega) (by omega)) ?_
      refine o_appX (R := nodeR) rfl rfl rfl rfl rfl (by decide) ho1 srB (by omega) gdB (fun c hc hm => by have := dB c (gfB c hm); have := (ho1.lt (b := c) hc).1; omega) (by simp only [List.length_nil]; omega) (by simp only [List.length_nil]; omega) (by omega) ?_
      intro v2 w2' ho2 hg2 hv2
      rw [List.nil_append] at ho2
      replace hk := hk.grown hg2 (fun c hc => (ho1.lt (b := c) hc).1)
      have hz2 := hk.size_le
      obtain ⟨gA, srA, gdA, gfA⟩ := (hs1.keep hk).srcX
      repeat refine zz ?_
      refine WL_pure rfl rfl (o_slice_lh (l := st E (p + 1)) (h := st E p) rfl rfl rfl (by omega) (by omega)) ?_
      refine o_appX (R := nodeR) rfl rfl rfl rfl rfl (by decide) ho2 srA (by omega) gdA (fun c hc hm => by have := dA c (gfA c hm); have := (ho2.lt (b := c) hc).1; omega) (by omega) (by omega) (by omega) ?_
      intro v3 w3' ho3 hg3 hv3
      replace hk := hk.grown hg3 (fun c hc => (ho2.lt (b := c) hc).1)
      repeat refine zz ?_
      refine WL_pure rfl rfl (o_buildT (cs := [.int .i64 op, .int .i64 0, .int .i64 0, .int .i64 0, .slice none 0 0, .slice none 0 0]) rfl rfl) ?_
      repeat refine zz ?_
      refine o_buildSlice rfl rfl rfl rfl rfl (by simp [Value.cells]) (by omega) ?_
      intro b6 w6' hal6
      have hb6 : Blk w6' b6 74 [.int .i64 op, .int .i64 0, .int .i64 0, .int .i64 0, .slice none 0 0, .slice none 0 0] := by simpa [Value.cells] using hal6.blk
      replace hk := hk.keep hal6.kp
      replace ho3 := ho3.keep hal6.kp
      have hz6 := hk.size_le
      repeat refine zz ?_
      refine o_appX (R := nodeR) (gi := []) rfl rfl rfl rfl rfl (by decide) ho3 (Blk.src (xs := [opN op]) hb6 (opN_rows _ _)) rfl (fun b hb => by simp at hb) (fun b hb hm => by simp at hm) (by simp only [List.length_append, List.length_cons, List.length_nil]; omega) (by simp only [List.length_append, List.length_cons, List.length_nil]; omega) (by omega) ?_
      intro v7 w7' ho7 hg7 hv7
      replace hk := hk.grown hg7 (fun c hc => (ho3.lt (b := c) hc).1)
      obtain ⟨f7, hs7⟩ := ho7.sl (by decide)
      repeat refine zz ?_
      exact ret2 rfl rfl rfl ⟨hk, _, true, rfl, fun _ => ⟨_, f7, hP, hs7, by simp only [List.length_append, List.length_cons, List.length_nil]; omega, appM (appM (segM hm9 _ _) (segM hm9 _ _)) (opM op)⟩, fun h => (by cases h)⟩
    simp at o1
    repeat refine zz ?_
    refine W_cond rfl (fun o2 => ?_) (fun o2 => ?_)
    · simp at o2
      have o4 : (gi E (p : Int)).op = 1 ∨ (gi E (p : Int)).op = 4 := .inr o2
      have o5 : opnds (gi E (p : Int)).op = 2 := by rcases hopc with h | h | h <;> omega
      rw [if_pos o4] at hP
      obtain ⟨w1, w2, w3, w4⟩ := at_bin hex hp o5
      generalize hop : (gi E (p : Int)).op = op at *
      obtain ⟨s1, hs1, _⟩ := hx.seg (l := st E (p + 1)) (k := st E p) w2 (by omega)
      obtain ⟨s2, hs2, _⟩ := hx.seg (l := st E p) (k := p) (by omega) (by omega)
      have e3 : (E.take (st E p)).drop (st E (p + 1)) = seg E (st E (p + 1)) (st E p) := by unfold seg; rfl
      have e4 : (E.take p).drop (st E p) = seg E (st E p) p := by unfold seg; rfl
      rw [e3] at hs1
      rw [e4] at hs2
      have hla := seg_length E (st E (p + 1)) (st E p) (by omega)
      have hlb := seg_length E (st E p) p (by omega)
      have dA := hs1.dom
      have dB := hs2.dom
      repeat refine zz ?_
      refine o_buildSlice rfl rfl rfl rfl rfl (by intro p hp; cases hp) (by omega) ?_
      intro bO wO halO
      have hkO := halO.kp
      have zO := halO.b_eq
      have hk := kz.keep hkO
      have hzz := kz.size_le
      have ho1 : OwnX nodeR wO w.heap.size 74 (.slice (some ⟨bO, 0, none⟩) 0 0) [] := OwnX.made halO.blk (by omega)
      have hz1 := hk.size_le
      obtain ⟨gB, srB, gdB, gfB⟩ := (hs2.keep hk).srcX
      repeat refine zz ?_
      refine WL_pure rfl rfl (o_slice_lh (l := st E p) (h := p) rfl rfl rfl (by omega) (by omega)) ?_
      refine o_appX (R := nodeR) rfl rfl rfl rfl rfl (by decide) ho1 srB (by omega) gdB (fun c hc hm => by have := dB c (gfB c hm); have := (ho1.lt (b := c) hc).1; omega) (by simp only [List.length_nil]; omega) (by simp only [List.length_nil]; omega) (by omega) ?_
      intro v2 w2' ho2 hg2 hv2
      rw [List.nil_append] at ho2
      replace hk := hk.grown hg2 (fun c hc => (ho1.lt (b := c) hc).1)
      have hz2 := hk.size_le
      obtain ⟨gA, srA, gdA, gfA⟩ := (hs1.keep hk).srcX
      repeat refine zz ?_
      refine WL_pure rfl rfl (o_slice_lh (l := st E (p + 1)) (h := st E p) rfl rfl rfl (by omega) (by omega)) ?_
      refine o_appX (R := nodeR) rfl rfl rfl rfl rfl (by decide) ho2 srA (by omega) gdA (fun c hc hm => by have := dA c (gfA c hm); have := (ho2.lt (b := c) hc).1; omega) (by omega) (by omega) (by omega) ?_
      intro v3 w3' ho3 hg3 hv3
      replace hk := hk.grown hg3 (fun c hc => (ho2.lt (b := c) hc).1)
      repeat refine zz ?_
      refine WL_pure rfl rfl (o_buildT (cs := [.int .i64 op, .int .i64 0, .int .i64 0, .int .i64 0, .slice none 0 0, .slice none 0 0]) rfl rfl) ?_
      repeat refine zz ?_
      refine o_buildSlice rfl rfl rfl rfl rfl (by simp [Value.cells]) (by omega) ?_
      intro b6 w6' hal6
      have hb6 : Blk w6' b6 74 [.int .i64 op, .int .i64 0, .int .i64 0, .int .i64 0, .slice none 0 0, .slice none 0 0] := by simpa [Value.cells] using hal6.blk
      replace hk := hk.keep hal6.kp
      replace ho3 := ho3.keep hal6.kp
      have hz6 := hk.size_le
      repeat refine zz ?_
      refine o_appX (R := nodeR) (gi := []) rfl rfl rfl rfl rfl (by decide) ho3 (Blk.src (xs := [opN op]) hb6 (opN_rows _ _)) rfl (fun b hb => by simp at hb) (fun b hb hm => by simp at hm) (by simp only [List.length_append, List.length_cons, List.length_nil]; omega) (by simp only [List.length_append, List.length_cons, List.length_nil]; omega) (by omega) ?_
      intro v7 w7' ho7 hg7 hv7
      replace hk := hk.grown hg7 (fun c hc => (ho3.lt (b := c) hc).1)
      obtain ⟨f7, hs7⟩ := ho7.sl (by decide)
      repeat refine zz ?_
      exact ret2 rfl rfl rfl ⟨hk, _, true, rfl, fun _ => ⟨_, f7, hP, hs7, by simp only [List.length_append, List.length_cons, List.length_nil]; omega, appM (appM (segM hm9 _ _) (segM hm9 _ _)) (opM op)⟩, fun h => (by cases h)⟩
    · simp at o2
      have hno : partR E 4 p = none := by rw [hP, if_neg (fun h => by omega)]
      repeat refine zz ?_
      exact ret2 rfl rfl rfl ⟨kz, _, false, rfl, fun h => (by cases h), fun _ => hno⟩
  have hno := part_cases (E := E) (p := p) r1 r2 r3 r4
  have d1 : decide (rule = 1) = false := decide_eq_false r1
  have d2 : decide (rule = 2) = false := decide_eq_false r2
  have d3 : decide (rule = 3) = false := decide_eq_false r3
  have d4 : decide (rule = 4) = false := decide_eq_false r4
  repeat refine zz ?_
  rw [d1]
  repeat refine zz ?_
  rw [d2]
  repeat refine zz ?_
  refine W_quiet (Keep w) (by kernel_rfl) (by kernel_rfl) (Keep.drew _) ?_
  repeat refine qq ?_
  rw [d3]
  repeat refine qq ?_
  intro wz kz 
  repeat refine zz ?_
  rw [d4]
  repeat refine zz ?_
  exact ret2 rfl rfl rfl ⟨kz, _, false, rfl, fun h => (by cases h), fun _ => hno⟩
end Go.E

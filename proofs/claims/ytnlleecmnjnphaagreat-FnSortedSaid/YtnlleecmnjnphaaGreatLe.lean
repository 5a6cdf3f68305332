/-
  Contracts: the expression of low wishes, by the program and by the reference. Conditions: none.
-/
import Derived.Test.YtnlleecmnjnphaaGreatNa
import Derived.Test.YtnlleecmnjnphaaGreatFa
set_option linter.unusedVariables false
set_option linter.unusedSimpArgs false
namespace Go.E
open Go Go.RowKit Go.Proofs
attribute [local irreducible] W WL WD WE thenE inE retQ PureOp Keep Cell Cells Blk Sl Rows Own Src Fresh

def lowNode (k : Int) : Nod := ⟨0, ⟨0, k, 0, [], []⟩⟩
def parNode : Nod := ⟨1, ⟨0, 0, 0, [], []⟩⟩
def lowN (f : List Int) : Nat → List Nod
  | 0 => []
  | n + 1 => lowN f n ++ (if n = 0 then [lowNode (gi f (n : Int))] else [lowNode (gi f (n : Int)), parNode])
def lowE (f : List Int) : List Nod := if isFieldList f then lowN f f.length else []
theorem lowN_len (f : List Int) (n : Nat) : (lowN f n).length ≤ 2 * n := by
  induction n with
  | zero => simp [lowN]
  | succ n ih =>
    simp only [lowN, List.length_append]
    split <;> simp <;> omega
theorem lowN_tot (f : List Int) (n : Nat) : totN (lowN f n) = 0 := by
  induction n with
  | zero => rfl
  | succ n ih =>
    simp only [lowN, totN_append, ih]
    split <;> rfl
/-- a field list has at most three fields -/
theorem fieldList_len {f : List Int} (h : isFieldList f = true) : f.length ≤ 3 := by
  simp only [isFieldList, Bool.and_eq_true] at h
  have hall : ∀ i, i < f.length → ascAt 2 f i = true := fun i hi => List.all_eq_true.1 h.1 i (by simpa using hi)
  have key : ∀ i, i < f.length → (i : Int) ≤ gi f (i : Int) := by
    intro i
    induction i with
    | zero => intro hi; have := hall 0 hi; simp [ascAt, inR] at this; simpa using this.1
    | succ i ih =>
      intro hi
      have h1 := ih (by omega)
      have h2 := hall (i + 1) hi
      simp only [ascAt, Bool.and_eq_true, Bool.or_eq_true, decide_eq_true_eq] at h2
      have h3 := h2.2
      rw [show ((i + 1 : Nat) : Int) - 1 = (i : Int) by omega] at h3
      omega
  rcases Nat.lt_or_ge 3 f.length with h4 | h4
  · have h5 := key 3 h4
    have h6 := hall 3 h4
    simp [ascAt, inR] at h6
    have := h6.1.2
    simp at h5; omega
  · exact h4
theorem lowE_cnt (f : List Int) : nCnt (lowE f) ≤ 24 := by
  unfold lowE
  split
  · rename_i h
    have h1 := fieldList_len h
    have h2 := lowN_len f f.length
    have h3 := lowN_tot f f.length
    have h4 := nCnt_le (lowN f f.length)
    omega
  · simp [nCnt]
theorem low_rows (w : World) (k : Int) : Rows nodeR w [lowNode k] [.int .i64 0, .int .i64 0, .int .i64 k, .int .i64 0, .slice none 0 0, .slice none 0 0] [] :=
  Rows.single ⟨_, rfl, _, _, [], [], rfl, rfl, Sl.nil (by omega) _, Sl.nil (by omega) _⟩
theorem par_rows (w : World) : Rows nodeR w [parNode] [.int .i64 1, .int .i64 0, .int .i64 0, .int .i64 0, .slice none 0 0, .slice none 0 0] [] :=
  Rows.single ⟨_, rfl, _, _, [], [], rfl, rfl, Sl.nil (by omega) _, Sl.nil (by omega) _⟩
theorem spec_LowExpression_ok {w : World} {v : Value} {f : List Int} {fp : List Nat} (hx : Sl intR w v f fp) :
    Run Tryz.prog 11 [v] w (fun r w' => Keep w w' ∧ ∃ u fp, r = .tuple #[u, .bool (isFieldList f)] ∧ Sl nodeR w' u (lowE f) fp ∧ Fresh w.heap.size w' fp) := by
  refine Run_intro Tryz.func11 (by unfold CallOk; kernel_rfl) rfl Tryz.ntmps11 (Nat.le_of_ble_eq_true rfl) ?_
  simp only [penv, Nat.reduceAdd, Nat.zero_add]
  have hx0 := hx
  repeat refine zz ?_
  refine o_buildSlice rfl rfl rfl rfl rfl (by intro p hp; cases hp) (by omega) ?_
  intro b0 w1 hal
  have hk := hal.kp
  have ho1 : OwnF nodeR w1 w.heap.size 62 (.slice (some ⟨b0, 0, none⟩) 0 0) [] [] := OwnF.made hal.blk (by have := hal.b_eq; omega)
  replace hx := hx.keep hk
  repeat refine zz ?_
  refine o_call rfl rfl rfl (spec_IsFieldList_ok hx) ?_
  rintro _ w2 ⟨rfl, hk2⟩
  replace hx := hx.keep hk2
  replace hk := hk.keep hk2
  replace ho1 := ho1.keep hk2
  repeat refine zz ?_
  refine W_cond rfl (fun h => ?_) (fun h => ?_)
  · simp at h
    repeat refine zz ?_
    obtain ⟨fp, hs, hf⟩ := ho1.sl (by decide)
    exact ret2 rfl rfl rfl ⟨hk, _, fp, by rw [h], by rw [lowE, if_neg (by simp [h])]; exact hs, hf⟩
  simp at h
  have hf3 := fieldList_len h
  obtain ⟨A, n, c, rfl, hnx⟩ := hx.split
  repeat refine zz ?_
  refine W_loop (S := Nat × Value) (fun s => [(0, .slice A n c), (4, s.2), (5, .int .i64 (s.1 : Int))]) (fun s w' => Keep w w' ∧ s.1 ≤ n ∧ OwnF nodeR w' w.heap.size 62 s.2 (lowN f s.1) []) (fun s => n - s.1) (0, _) ⟨rfl, rfl, rfl, trivial⟩ ⟨hk, by omega, ho1⟩ ?_
  rintro ⟨k, va⟩ wa ⟨hka, hk0, hoa⟩
  dsimp only at hk0 hoa ⊢
  have hll := lowN_len f k
  repeat refine zz ?_
  refine W_cond rfl (fun hc => ?_) (fun hc => ?_)
  · have hkn : k < n := by simp at hc; omega
    have hxa := hx0.keep hka
    obtain ⟨hA, hck⟩ := hxa.getI (i := (k : Int)) (by omega) (by omega)
    repeat refine zz ?_
    refine WL_pure rfl rfl (o_buildT rfl rfl) ?_
    repeat refine zz ?_
    refine WL_pure rfl rfl (o_buildT rfl rfl) ?_
    repeat refine zz ?_
    refine o_buildSlice rfl rfl rfl rfl rfl (by simp [Value.cells]) (by omega) ?_
    intro b2 w2 hal2
    have hkb := hka.keep hal2.kp
    have hob := hoa.keep hal2.kp
    have hsz := hka.size_le
    have hz2 := hal2.size
    repeat refine zz ?_
    refine o_appendF (R := nodeR) (M := _) (gi := []) rfl rfl rfl rfl rfl (by decide) hob (Blk.src (xs := [lowNode (gi f (k : Int))]) hal2.blk (low_rows _ _)) rfl (Fresh.nil _ _) (fun b hb => by simp at hb) (fun b hb => (hob.lt hb).2) (fun b hb => by simp at hb) (by simp only [List.length_cons, List.length_nil]; omega) (by simp only [List.length_cons, List.length_nil]; omega) (by omega) ?_
    intro v3 w3 ho3 hb3 hg3
    have hk3 : Keep w w3 := hkb.grown hg3 (fun b hb => (hob.lt hb).1)
    repeat refine zz ?_
    refine W_cond rfl (fun hp => ?_) (fun hp => ?_)
    · simp at hp
      repeat refine zz ?_
      refine WL_pure rfl rfl (o_buildT rfl rfl) ?_
      repeat refine zz ?_
      refine o_buildSlice rfl rfl rfl rfl rfl (by simp [Value.cells]) (by omega) ?_
      intro b4 w4 hal4
      have hkb4 := hk3.keep hal4.kp
      have hob4 := ho3.keep hal4.kp
      have hsz3 := hk3.size_le
      have hz4 := hal4.size
      repeat refine zz ?_
      refine o_appendF (R := nodeR) (M := _) (gi := []) rfl rfl rfl rfl rfl (by decide) hob4 (Blk.src (xs := [parNode]) hal4.blk (par_rows _)) rfl (Fresh.nil _ _) (fun b hb => by simp at hb) (fun b hb => (hob4.lt hb).2) (fun b hb => by simp at hb) (by simp only [List.length_append, List.length_cons, List.length_nil]; omega) (by simp only [List.length_append, List.length_cons, List.length_nil]; omega) (by omega) ?_
      intro v5 w5 ho5 hb5 hg5
      have hk5 : Keep w w5 := hkb4.grown hg5 (fun b hb => (hob4.lt hb).1)
      repeat refine zz ?_
      have e : lowN f (k + 1) = lowN f k ++ [lowNode (gi f (k : Int))] ++ [parNode] := by simp only [lowN]; rw [if_neg (by omega)]; simp
      refine ⟨(k + 1, v5), ⟨rfl, rfl, rfl, trivial⟩, ⟨hk5, by dsimp only; omega, by dsimp only; rw [e]; exact ho5⟩, by dsimp only; omega⟩
    · simp at hp
      repeat refine zz ?_
      have e : lowN f (k + 1) = lowN f k ++ [lowNode (gi f (k : Int))] := by simp only [lowN]; rw [if_pos (by omega)]
      refine ⟨(k + 1, v3), ⟨rfl, rfl, rfl, trivial⟩, ⟨hk3, by dsimp only; omega, by dsimp only; rw [e]; exact ho3⟩, by dsimp only; omega⟩
  · simp at hc
    obtain rfl : k = n := by omega
    repeat refine zz ?_
    obtain ⟨fp, hs, hf⟩ := hoa.sl (by decide)
    exact ret2 rfl rfl rfl ⟨hka, _, fp, by rw [h], by rw [lowE, if_pos h, ← hnx]; exact hs, hf⟩

theorem impl_LowExpression_ok {w : World} {v : Value} {f : List Int} {fp : List Nat} (hx : Sl intR w v f fp) :
    Run Tryz.prog 10 [v] w (fun r w' => Keep w w' ∧ ∃ u fp, r = .tuple #[u, .bool (isFieldList f)] ∧ Sl nodeR w' u (lowE f) fp ∧ Fresh w.heap.size w' fp) := by
  refine Run_intro Tryz.func10 (by unfold CallOk; kernel_rfl) rfl Tryz.ntmps10 (Nat.le_of_ble_eq_true rfl) ?_
  simp only [penv, Nat.reduceAdd, Nat.zero_add]
  have hx0 := hx
  repeat refine zz ?_
  refine o_buildSlice rfl rfl rfl rfl rfl (by intro p hp; cases hp) (by omega) ?_
  intro b0 w1 hal
  have hk := hal.kp
  have ho1 : OwnF nodeR w1 w.heap.size 62 (.slice (some ⟨b0, 0, none⟩) 0 0) [] [] := OwnF.made hal.blk (by have := hal.b_eq; omega)
  replace hx := hx.keep hk
  repeat refine zz ?_
  refine o_call rfl rfl rfl (impl_IsFieldList_ok hx) ?_
  rintro _ _ ⟨rfl, rfl⟩
  repeat refine zz ?_
  refine W_cond rfl (fun h => ?_) (fun h => ?_)
  · simp at h
    repeat refine zz ?_
    obtain ⟨fp, hs, hf⟩ := ho1.sl (by decide)
    exact ret2 rfl rfl rfl ⟨hk, _, fp, by rw [h], by rw [lowE, if_neg (by simp [h])]; exact hs, hf⟩
  simp at h
  have hf3 := fieldList_len h
  obtain ⟨A, n, c, rfl, hnx⟩ := hx.split
  repeat refine zz ?_
  refine W_loop (S := Nat × Value) (fun s => [(4, s.2), (12, .slice A n c), (13, .int .i64 n), (14, .int .i64 (s.1 : Int))]) (fun s w' => Keep w w' ∧ s.1 ≤ n ∧ OwnF nodeR w' w.heap.size 62 s.2 (lowN f s.1) []) (fun s => n - s.1) (0, _) ⟨rfl, rfl, rfl, rfl, trivial⟩ ⟨hk, by omega, ho1⟩ ?_
  rintro ⟨k, va⟩ wa ⟨hka, hk0, hoa⟩
  dsimp only at hk0 hoa ⊢
  have hll := lowN_len f k
  repeat refine zz ?_
  refine W_cond rfl (fun hc => ?_) (fun hc => ?_)
  · have hkn : k < n := by simp at hc; omega
    have hxa := hx0.keep hka
    obtain ⟨hA, hck⟩ := hxa.getI (i := (k : Int)) (by omega) (by omega)
    repeat refine zz ?_
    refine WL_pure rfl rfl (o_buildT rfl rfl) ?_
    repeat refine zz ?_
    refine WL_pure rfl rfl (o_buildT rfl rfl) ?_
    repeat refine zz ?_
    refine o_buildSlice rfl rfl rfl rfl rfl (by simp [Value.cells]) (by omega) ?_
    intro b2 w2 hal2
    have hkb := hka.keep hal2.kp
    have hob := hoa.keep hal2.kp
    have hsz := hka.size_le
    have hz2 := hal2.size
    repeat refine zz ?_
    refine o_appendF (R := nodeR) (M := _) (gi := []) rfl rfl rfl rfl rfl (by decide) hob (Blk.src (xs := [lowNode (gi f (k : Int))]) hal2.blk (low_rows _ _)) rfl (Fresh.nil _ _) (fun b hb => by simp at hb) (fun b hb => (hob.lt hb).2) (fun b hb => by simp at hb) (by simp only [List.length_cons, List.length_nil]; omega) (by simp only [List.length_cons, List.length_nil]; omega) (by omega) ?_
    intro v3 w3 ho3 hb3 hg3
    have hk3 : Keep w w3 := hkb.grown hg3 (fun b hb => (hob.lt hb).1)
    repeat refine zz ?_
    refine W_cond rfl (fun hp => ?_) (fun hp => ?_)
    · simp at hp
      repeat refine zz ?_
      refine WL_pure rfl rfl (o_buildT rfl rfl) ?_
      repeat refine zz ?_
      refine o_buildSlice rfl rfl rfl rfl rfl (by simp [Value.cells]) (by omega) ?_
      intro b4 w4 hal4
      have hkb4 := hk3.keep hal4.kp
      have hob4 := ho3.keep hal4.kp
      have hsz3 := hk3.size_le
      have hz4 := hal4.size
      repeat refine zz ?_
      refine o_appendF (R := nodeR) (M := _) (gi := []) rfl rfl rfl rfl rfl (by decide) hob4 (Blk.src (xs := [parNode]) hal4.blk (par_rows _)) rfl (Fresh.nil _ _) (fun b hb => by simp at hb) (fun b hb => (hob4.lt hb).2) (fun b hb => by simp at hb) (by simp only [List.length_append, List.length_cons, List.length_nil]; omega) (by simp only [List.length_append, List.length_cons, List.length_nil]; omega) (by omega) ?_
      intro v5 w5 ho5 hb5 hg5
      have hk5 : Keep w w5 := hkb4.grown hg5 (fun b hb => (hob4.lt hb).1)
      repeat refine zz ?_
      have e : lowN f (k + 1) = lowN f k ++ [lowNode (gi f (k : Int))] ++ [parNode] := by simp only [lowN]; rw [if_neg (by omega)]; simp
      refine ⟨(k + 1, v5), ⟨rfl, rfl, rfl, rfl, trivial⟩, ⟨hk5, by dsimp only; omega, by dsimp only; rw [e]; exact ho5⟩, by dsimp only; omega⟩
    · simp at hp
      repeat refine zz ?_
      have e : lowN f (k + 1) = lowN f k ++ [lowNode (gi f (k : Int))] := by simp only [lowN]; rw [if_pos (by omega)]
      refine ⟨(k + 1, v3), ⟨rfl, rfl, rfl, rfl, trivial⟩, ⟨hk3, by dsimp only; omega, by dsimp only; rw [e]; exact ho3⟩, by dsimp only; omega⟩
  · simp at hc
    obtain rfl : k = n := by omega
    repeat refine zz ?_
    obtain ⟨fp, hs, hf⟩ := hoa.sl (by decide)
    exact ret2 rfl rfl rfl ⟨hka, _, fp, by rw [h], by rw [lowE, if_pos h, ← hnx]; exact hs, hf⟩
end Go.E

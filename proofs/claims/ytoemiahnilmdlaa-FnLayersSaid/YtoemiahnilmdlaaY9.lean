/-
  Contracts: a chain to an item, one of each layer. Conditions: as stated.
-/
import Derived.Test.YtoemiahnilmdlaaY8
set_option linter.unusedVariables false
set_option linter.unusedSimpArgs false
namespace Go.E
open Go Go.RowKit Go.Proofs
def nextAt (L : List Itm) (e : List Nod) (i : Nat) (k : Nat) (j : Nat) : Bool := decide (cmpE e (gi L (j : Int)) (gi L (i : Int)) = 1) && decide (lyr (layersOf L e) (gi L (j : Int)).id = (k : Int))
def nextN (L : List Itm) (e : List Nod) (i k : Nat) : Nat := (idxB L.length (nextAt L e i k)).toNat
def chainN (L : List Itm) (e : List Nod) : Nat → Nat → List Int → List Int
  | 0, _, acc => acc
  | k + 1, i, acc => chainN L e k (nextN L e i k) ((gi L (nextN L e i k : Nat)).id :: acc)
def chainTo (L : List Itm) (e : List Nod) (id : Int) : List Int := if fine L e && decide (0 ≤ findI L id) then chainN L e (lyr (layersOf L e) id).toNat (findI L id).toNat [id] else []
theorem chainN_zero (L : List Itm) (e : List Nod) (i : Nat) (acc : List Int) : chainN L e 0 i acc = acc := rfl
theorem chainN_len (L : List Itm) (e : List Nod) : ∀ (k i : Nat) (acc : List Int), (chainN L e k i acc).length = k + acc.length := by
  intro k
  induction k with
  | zero => intro i acc; simp [chainN]
  | succ k ih => intro i acc; rw [chainN, ih]; simp only [List.length_cons]; omega
theorem chainTo_len (L : List Itm) (e : List Nod) (id : Int) : (chainTo L e id).length ≤ 17 := by
  unfold chainTo
  split
  · rw [chainN_len]
    have := lay_ub L e id
    simp only [List.length_cons, List.length_nil]; omega
  · simp
theorem chain_next {L : List Itm} {e : List Nod} {i k j : Nat} (hj : j < L.length) (ha : ∀ m, m < j → nextAt L e i k m = false) (h1 : nextAt L e i k j = true) (acc : List Int) : chainN L e (k + 1) i acc = chainN L e k j ((gi L (j : Int)).id :: acc) := by
  have e1 : nextN L e i k = j := by rw [nextN, idxB_hit hj ha h1]; rfl
  rw [chainN, e1]
theorem next_ex {L : List Itm} {e : List Nod} (h : fine L e = true) {i k : Nat} (hi : i < L.length) (hk : lyr (layersOf L e) (gi L (i : Int)).id = ((k + 1 : Nat) : Int)) : ¬ ∀ m, m < L.length → nextAt L e i k m = false := by
  intro ha
  obtain ⟨j, hj, hc, he⟩ := lay_ex h hi (by omega)
  have := ha j hj
  rw [nextAt, hc, decide_eq_true (p := lyr (layersOf L e) (gi L (j : Int)).id = (k : Int)) (by omega)] at this
  cases this
theorem pickN_find {L : List Itm} {p : Nat → Bool} {g : Int → Bool} : ∀ n : Nat, (pickN L p n).find? g = ((List.range n).find? fun j => p j && g (gi L (j : Int)).id).map fun j => (gi L (j : Int)).id := by
  intro n
  induction n with
  | zero => rfl
  | succ n ih =>
    rw [pickN, List.find?_append, ih, List.range_succ, List.find?_append]
    cases hh : (List.range n).find? fun j => p j && g (gi L (j : Int)).id with
    | some j => rfl
    | none =>
      cases hp : p n with
      | false => simp [hp]
      | true => cases hg : g (gi L (n : Int)).id <;> simp [hp, hg]
theorem find_hit {xs : List Int} {g : Int → Bool} {q : Nat} (hq : q < xs.length) (ha : ∀ m, m < q → g (gi xs (m : Int)) = false) (h1 : g (gi xs (q : Int)) = true) : xs.find? g = some (gi xs (q : Int)) := by
  rw [List.find?_eq_some_iff_getElem]
  refine ⟨h1, q, hq, (gi_lt hq).symm, fun j hj => ?_⟩
  have := ha j hj
  rw [gi_lt (by omega)] at this
  simp [this]
theorem find_no {xs : List Int} {g : Int → Bool} (ha : ∀ m, m < xs.length → g (gi xs (m : Int)) = false) : xs.find? g = none := by
  rw [List.find?_eq_none]
  intro x hx
  obtain ⟨i, hi, rfl⟩ := List.getElem_of_mem hx
  have := ha i hi
  rw [gi_lt hi] at this
  simp [this]
theorem rel_at {L : List Itm} {e : List Nod} (h : fine L e = true) {i : Nat} (hi : i < L.length) : relL L e (gi L (i : Int)).id 1 = pickN L (fun j => decide (cmpE e (gi L (j : Int)) (gi L (i : Int)) = 1)) L.length := by
  have hf := h
  simp only [fine, Bool.and_eq_true] at hf
  have h0 : 0 ≤ findI L (gi L (i : Int)).id := by
    by_cases h0 : 0 ≤ findI L (gi L (i : Int)).id
    · exact h0
    · exact absurd rfl (findI_no h0 _ (giM_mem hi))
  have hid := findI_id h0
  have hlt := findI_lt L (gi L (i : Int)).id
  have he : gi L (findI L (gi L (i : Int)).id) = gi L (i : Int) := by
    refine areItems_inj hf.1 _ _ ?_ (giM_mem hi) hid
    have := giM_mem (M := L) (i := (findI L (gi L (i : Int)).id).toNat) (by omega)
    rwa [show (((findI L (gi L (i : Int)).id).toNat : Nat) : Int) = findI L (gi L (i : Int)).id by omega] at this
  rw [relL, if_pos (by simp [h, h0]), he]
theorem rel_hit {L : List Itm} {e : List Nod} (h : fine L e = true) {i k q : Nat} (hi : i < L.length) {xs : List Int} (hx : xs = relL L e (gi L (i : Int)).id 1) (hq : q < xs.length)
    (ha : ∀ m, m < q → decide (lyr (layersOf L e) (gi xs (m : Int)) = (k : Int)) = false) (h1 : lyr (layersOf L e) (gi xs (q : Int)) = (k : Int)) :
    ∃ j : Nat, j < L.length ∧ (gi L (j : Int)).id = gi xs (q : Int) ∧ nextAt L e i k j = true ∧ ∀ m, m < j → nextAt L e i k m = false := by
  have hfi := find_hit (g := fun d => decide (lyr (layersOf L e) d = (k : Int))) hq ha (by simpa using h1)
  have hpf := pickN_find (L := L) (p := fun j => decide (cmpE e (gi L (j : Int)) (gi L (i : Int)) = 1)) (g := fun d => decide (lyr (layersOf L e) d = (k : Int))) L.length
  rw [← rel_at h hi, ← hx, hfi] at hpf
  cases hh : (List.range L.length).find? fun j : Nat => decide (cmpE e (gi L (j : Int)) (gi L (i : Int)) = 1) && decide (lyr (layersOf L e) (gi L (j : Int)).id = (k : Int)) with
  | none => rw [hh] at hpf; cases hpf
  | some j =>
    rw [hh] at hpf
    replace hpf := Option.some.inj hpf
    rw [List.find?_range_eq_some] at hh
    obtain ⟨h2, h3, h4⟩ := hh
    exact ⟨j, by simpa using h3, hpf.symm, h2, fun m hm => by have := h4 m hm; unfold nextAt; exact (Bool.not_eq_true' _).mp this⟩
theorem rel_no {L : List Itm} {e : List Nod} (h : fine L e = true) {i k : Nat} (hi : i < L.length) (hk : lyr (layersOf L e) (gi L (i : Int)).id = ((k + 1 : Nat) : Int)) {xs : List Int} (hx : xs = relL L e (gi L (i : Int)).id 1)
    (ha : ∀ m, m < xs.length → decide (lyr (layersOf L e) (gi xs (m : Int)) = (k : Int)) = false) : False := by
  have hfi := find_no (g := fun d => decide (lyr (layersOf L e) d = (k : Int))) ha
  have hpf := pickN_find (L := L) (p := fun j => decide (cmpE e (gi L (j : Int)) (gi L (i : Int)) = 1)) (g := fun d => decide (lyr (layersOf L e) d = (k : Int))) L.length
  rw [← rel_at h hi, ← hx, hfi] at hpf
  refine next_ex h hi hk fun m hm => ?_
  cases hh : (List.range L.length).find? fun j : Nat => decide (cmpE e (gi L (j : Int)) (gi L (i : Int)) = 1) && decide (lyr (layersOf L e) (gi L (j : Int)).id = (k : Int)) with
  | none =>
    rw [List.find?_range_eq_none] at hh
    have := hh m hm
    unfold nextAt
    exact (Bool.not_eq_true' _).mp this
  | some j => rw [hh] at hpf; cases hpf
theorem OwnF.fullI {w : World} {b base : Nat} {el : TypeId} {x : Int} (h : Blk w b el [.int .i64 x]) (hb : base ≤ b) : OwnF intR w base el (.slice (some ⟨b, 0, none⟩) 1 1) [x] [] :=
  ⟨Own.full (xs := [x]) h (Rows.ints _ _) (by simp [maxLen]) hb, Fresh.nil _ _, fun b hb => by simp⟩
attribute [local irreducible] W WL WD WE thenE inE retQ PureOp Keep Cell Cells Blk Sl Rows Own Src Fresh
attribute [local irreducible] only hasI bestL cmpE isExpr areItems fine lays lyr layersOf mxN chainN nextAt relL

set_option maxHeartbeats 1000000 in
theorem impl_ChainTo_ok {w : World} {v u : Value} {L : List Itm} {e : List Nod} {fp gp : List Nat} (hL : Sl itemR w v L fp) (he : Sl nodeR w u e gp) (id : Int) (hn : e.length + totN e ≤ 1048576) :
    Run Try.prog 75 [v, u, .int .i64 id] w (fun r w' => Keep w w' ∧ ∃ fp, Sl intR w' r (chainTo L e id) fp ∧ Fresh w.heap.size w' fp) := by
  obtain ⟨A, n, c, rfl, hnx⟩ := hL.split
  refine Run_intro Try.func75 (by unfold CallOk; kernel_rfl) rfl Try.ntmps75 (Nat.le_of_ble_eq_true rfl) ?_
  simp only [penv, Nat.reduceAdd, Nat.zero_add]
  repeat refine zz ?_
  refine o_call rfl rfl rfl (impl_LayersOf_ok hL he hn) ?_
  rintro v2 w2 ⟨hk, f2, hs2, hf2⟩
  obtain ⟨A2, n2, c2, rfl, hn2⟩ := hs2.split
  repeat refine zz ?_
  refine o_call rfl rfl rfl (impl_LayerOf_ok (hL.keep hk) (he.keep hk) id hn) ?_
  rintro _ w3 ⟨rfl, hk3⟩
  replace hk := hk.keep hk3
  replace hs2 := hs2.keep hk3
  repeat refine zz ?_
  refine W_cond rfl (fun h1 => ?_) (fun h1 => ?_)
  · simp only [decide_eq_true_eq] at h1
    have hno : ¬ (fine L e = true ∧ 0 ≤ findI L id) := fun ⟨h2, h3⟩ => by
      have hlt := findI_lt L id
      have hid := findI_id h3
      have := lay_nn h2 (i := (findI L id).toNat) (by omega)
      rw [show (((findI L id).toNat : Nat) : Int) = findI L id by omega, hid] at this
      omega
    repeat refine zz ?_
    refine o_buildSlice rfl rfl rfl rfl rfl (by intro p hp; cases hp) (by omega) ?_
    intro bO wO halO
    have hkO := halO.kp
    have ho : OwnF intR wO w.heap.size 3 (.slice (some ⟨bO, 0, none⟩) 0 0) [] [] := OwnF.made halO.blk (by have := halO.b_eq; have := hk.size_le; omega)
    repeat refine zz ?_
    obtain ⟨fp, hs, hf⟩ := ho.sl (by decide)
    exact ret1 rfl rfl ⟨hk.keep hkO, fp, by rw [chainTo, if_neg (by simpa using hno)]; exact hs, hf⟩
  simp only [decide_eq_false_iff_not] at h1
  have hfi : fine L e = true := by
    cases hh : fine L e with
    | true => rfl
    | false => have := lyr_no (L := L) (e := e) (id := id) (.inl hh); omega
  have hf0 : 0 ≤ findI L id := by
    by_cases hh : 0 ≤ findI L id
    · exact hh
    · have := lyr_no (L := L) (e := e) (id := id) (.inr hh); omega
  have hct : chainTo L e id = chainN L e (lyr (layersOf L e) id).toNat (findI L id).toNat [id] := by rw [chainTo, hfi, decide_eq_true hf0]; rfl
  have hlt := findI_lt L id
  have hid := findI_id hf0
  obtain ⟨i0, hi0⟩ : ∃ i : Nat, findI L id = (i : Int) := ⟨(findI L id).toNat, by omega⟩
  rw [hi0] at hid hlt hct
  rw [Int.toNat_natCast] at hct
  have hub := lay_ub L e id
  have hok := fine_ok hfi
  have hit := hok.1
  have hln := hok.2.1
  repeat refine zz ?_
  refine o_buildSlice rfl rfl rfl rfl rfl (by simp [Value.cells]) (by omega) ?_
  intro b4 w4 hal4
  have ho : OwnF intR w4 w.heap.size 3 (.slice (some ⟨b4, 0, none⟩) 1 1) [id] [] := OwnF.fullI hal4.blk (by have := hal4.b_eq; have := hk.size_le; omega)
  obtain ⟨f4, hs4, hf4⟩ := ho.sl (by decide)
  replace hk := hk.keep hal4.kp
  replace hs2 := hs2.keep hal4.kp
  repeat refine zz ?_
  refine W_loop (S := Nat × Nat × List Int × Value) (fun s => [(0, .slice A n c), (1, u), (7, .slice A2 n2 c2), (8, .int .i64 ((s.1 : Int) - 1)), (9, s.2.2.2)]) (fun s w' => Keep w w' ∧ s.2.1 < L.length ∧ lyr (layersOf L e) (gi L (s.2.1 : Int)).id = (s.1 : Int) ∧ (0 < s.2.2.1.length ∧ gi s.2.2.1 0 = (gi L (s.2.1 : Int)).id ∧ s.1 + s.2.2.1.length ≤ 17) ∧ chainTo L e id = chainN L e s.1 s.2.1 s.2.2.1 ∧ Sl (slR intR) w' (.slice A2 n2 c2) (layersOf L e) f2 ∧ ∃ f, Sl intR w' s.2.2.2 s.2.2.1 f ∧ Fresh w.heap.size w' f) (fun s => s.1) ((lyr (layersOf L e) id).toNat, i0, [id], _) ⟨rfl, rfl, rfl, find_int rfl (by dsimp only; omega), rfl, trivial⟩ ⟨hk, by dsimp only; omega, by dsimp only; rw [hid]; omega, ⟨by simp, by dsimp only; rw [hid]; rfl, by dsimp only [List.length_cons, List.length_nil]; omega⟩, hct, hs2, f4, hs4, hf4⟩ ?_
  clear ho hk hs4 hf4 hal4 hs2 hk3 hf2
  rintro ⟨k, i, acc, va⟩ wa ⟨hka, hi, hly, ⟨hacc, hac0, hlen⟩, hch, hs2, fa, hsa, hfa⟩
  dsimp only at hi hly hlen hch hsa hacc hac0 hs2 ⊢
  obtain ⟨A7, n7, c7, rfl, hn7⟩ := hsa.split
  repeat refine zz ?_
  refine W_cond rfl (fun h0 => ?_) (fun h0 => ?_)
  · simp only [decide_eq_true_eq] at h0
    obtain ⟨k, rfl⟩ : ∃ m, k = m + 1 := ⟨k - 1, by omega⟩
    obtain ⟨hA7, hc7⟩ := hsa.getI (i := 0) (by omega) (by omega)
    rw [hac0] at hc7
    repeat refine zz ?_
    refine o_call rfl rfl rfl (impl_DominatorsOf_ok (hL.keep hka) (he.keep hka) (gi L (i : Int)).id hn) ?_
    rintro v8 wb ⟨hkb, f8, hs8, hf8⟩
    replace hka := hka.keep hkb
    replace hs2 := hs2.keep hkb
    replace hsa := hsa.keep hkb
    replace hfa := hfa.keep hkb
    obtain ⟨xs, hxs⟩ : ∃ xs, xs = relL L e (gi L (i : Int)).id 1 := ⟨_, rfl⟩
    rw [← hxs] at hs8
    obtain ⟨A8, n8, c8, rfl, hn8⟩ := hs8.split
    have hx8 : n8 ≤ 16 := by rw [hn8, hxs]; exact relL_len _ _ _ _
    have hkl : k < (layersOf L e).length := by have := lyr_lb (layersOf L e) (gi L (i : Int)).id; omega
    repeat refine zz ?_
    refine W_loop (S := Nat) (fun q => [(0, .slice A n c), (1, u), (7, .slice A2 n2 c2), (8, .int .i64 (k : Int)), (9, .slice A7 n7 c7), (35, .slice A8 n8 c8), (36, .int .i64 n8), (37, .int .i64 (q : Int))]) (fun q w' => Keep wb w' ∧ q ≤ n8 ∧ ∀ m, m < q → (fun m : Nat => decide (lyr (layersOf L e) (gi xs (m : Int)) = (k : Int))) m = false) (fun q => n8 - q) 0 ⟨rfl, rfl, rfl, find_int rfl (by omega), rfl, rfl, rfl, rfl, trivial⟩ ⟨Keep.refl _, Nat.zero_le _, fun m hm => absurd hm (by omega)⟩ ?_
    rintro q wc ⟨hkc, hqn, hall⟩
    repeat refine zz ?_
    refine W_cond rfl (fun hc => ?_) (fun hc => ?_)
    · have hql : q < n8 := by simp at hc; omega
      obtain ⟨hA8, hc8⟩ := (hs8.keep hkc).getI (i := (q : Int)) (by omega) (by omega)
      obtain ⟨hA2, cs, f1, ⟨u1, rfl, hu1⟩, _, hcs⟩ := (hs2.keep hkc).get (i := (k : Int)) (by omega) (by omega)
      have hcell := hcs.one
      repeat refine zz ?_
      refine o_call rfl rfl rfl (slices_Contains_ok hu1) ?_
      rintro _ _ ⟨rfl, rfl⟩
      rw [lay_at hkl]
      repeat refine zz ?_
      refine W_cond rfl (fun hd => ?_) (fun hd => ?_)
      · simp only [decide_eq_true_eq] at hd
        obtain ⟨j, hj, hje, hnx1, hjall⟩ := rel_hit hfi hi hxs (by omega) hall hd
        rw [← hje]
        have hlj : lyr (layersOf L e) (gi L (j : Int)).id = (k : Int) := by rw [hje]; exact hd
        replace hka := hka.keep hkc
        replace hs2 := hs2.keep hkc
        replace hsa := hsa.keep hkc
        repeat refine zz ?_
        refine o_buildSlice rfl rfl rfl rfl rfl (by simp [Value.cells]) (by omega) ?_
        intro b6 w6 hal6
        have hdm2 := hs2.dom
        have he6 := hal6.b_eq
        have ho6 : OwnF intR w6 w.heap.size 3 (.slice (some ⟨b6, 0, none⟩) 1 1) [(gi L (j : Int)).id] [] := OwnF.fullI hal6.blk (by have := hal6.b_eq; have := hka.size_le; omega)
        have hz6 := hal6.size
        have hzk := hka.size_le
        replace hka := hka.keep hal6.kp
        replace hsa := hsa.keep hal6.kp
        replace hs2 := hs2.keep hal6.kp
        repeat refine zz ?_
        refine o_appendF (R := intR) (M := _) (gi := []) rfl rfl rfl rfl rfl (by decide) ho6 hsa.srcI hn7 (Fresh.nil _ _) (fun b hb => by simp at hb) (fun b hb => (ho6.lt hb).2) (fun b hb => by simp at hb) (by simp only [List.length_cons, List.length_nil]; omega) (by simp only [List.length_cons, List.length_nil]; omega) (by omega) ?_
        intro v9 w9 ho9 hb9 hg9
        have hk9 : Keep w w9 := hka.grown hg9 (fun b hb => (ho6.lt hb).1)
        have hs9 := hs2.same fun b hb => hg9.block b (hs2.dom b hb) (fun e => by have := hdm2 b hb; simp only [Value.ownBlock, Option.some.injEq] at e; omega)
        obtain ⟨f9, hs9', hf9⟩ := ho9.sl (by decide)
        repeat refine zz ?_
        exact ⟨(k, j, (gi L (j : Int)).id :: acc, v9), ⟨rfl, rfl, rfl, rfl, rfl, trivial⟩, ⟨hk9, by dsimp only; omega, by dsimp only; omega, ⟨by simp, by dsimp only; rfl, by dsimp only [List.length_cons]; omega⟩, by dsimp only; rw [hch, chain_next hj hjall hnx1], hs9, f9, hs9', hf9⟩, by dsimp only; omega⟩
      · repeat refine zz ?_
        exact ⟨q + 1, ⟨rfl, rfl, rfl, rfl, rfl, rfl, rfl, rfl, trivial⟩, ⟨hkc, by omega, all_no hall hd⟩, by omega⟩
    · simp at hc
      obtain rfl : q = n8 := by omega
      exact (rel_no hfi hi hly hxs (by rw [← hn8]; exact hall)).elim
  · simp only [decide_eq_false_iff_not] at h0
    obtain rfl : k = 0 := by omega
    repeat refine zz ?_
    exact ret1 rfl rfl ⟨hka, fa, by rw [hch, chainN_zero]; exact hsa, hfa⟩
end Go.E

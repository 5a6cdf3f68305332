/-
  Contracts: the layer of an item. Conditions: as stated.
-/
import Derived.Test.YtoemiahnilmdlaaY7
set_option linter.unusedVariables false
set_option linter.unusedSimpArgs false
namespace Go.E
open Go Go.RowKit Go.Proofs
attribute [local irreducible] W WL WD WE thenE inE retQ PureOp Keep Cell Cells Blk Sl Rows Own Src Fresh
attribute [local irreducible] only hasI bestL cmpE isExpr areItems fine lays lyr layersOf mxN

set_option maxHeartbeats 1000000 in
theorem l7Layer_ok {L : List Itm} {e : List Nod} (hfi : fine L e = true) : ∀ (N : Nat) {w : World} {v u : Value} {fp gp : List Nat} {i : Nat} (hL : Sl itemR w v L fp) (he : Sl nodeR w u e gp), i < L.length → lyr (layersOf L e) (gi L (i : Int)).id < (N : Int) →
    Run Try.prog 181 [v, u, .int .i64 (i : Int)] w (fun r w' => r = .int .i64 (lyr (layersOf L e) (gi L (i : Int)).id) ∧ Keep w w') := by
  intro N
  have hok := fine_ok hfi
  have hit := hok.1
  have hln := hok.2.1
  induction N with
  | zero => intro w v u fp gp i hL he hi hlt; have := lay_nn hfi hi; omega
  | succ N ih =>
    intro w v u fp gp i hL he hi hlt
    obtain ⟨A, n, c, rfl, hnx⟩ := hL.split
    refine Run_intro Try.func181 (by unfold CallOk; kernel_rfl) rfl Try.ntmps181 (Nat.le_of_ble_eq_true rfl) ?_
    simp only [penv, Nat.reduceAdd, Nat.zero_add]
    repeat refine zz ?_
    refine W_loop (S := Nat) (fun k => [(0, .slice A n c), (1, u), (2, .int .i64 (i : Int)), (7, .int .i64 (mxN L e i k)), (8, .int .i64 (k : Int))]) (fun k w' => Keep w w' ∧ k ≤ n) (fun k => n - k) 0 ⟨rfl, rfl, rfl, find_int rfl (by unfold mxN; rfl), rfl, trivial⟩ ⟨Keep.refl _, Nat.zero_le _⟩ ?_
    rintro k wa ⟨hka, hkn⟩
    have hmb := mxN_bd hfi hi k (by omega)
    have hms := mxN_succ L e i k
    have hLa := hL.keep hka
    have hea := he.keep hka
    repeat refine zz ?_
    refine W_cond rfl (fun hc => ?_) (fun hc => ?_)
    · have hkl : k < n := by simp at hc; omega
      obtain ⟨hA, u1, f1, hcell1, hu1, _⟩ := item_get hLa (i := (k : Int)) (by omega) (by omega)
      obtain ⟨_, u2, f2, hcell2, hu2, _⟩ := item_get hLa (i := (i : Int)) (by omega) (by omega)
      repeat refine zz ?_
      refine W_quiet (Keep wa) (by kernel_rfl) (by kernel_rfl) (Keep.drew _) ?_
      repeat refine qq ?_
      refine WQ_call rfl rfl rfl (fun w' hw' => (l5Compare_ok (hea.keep hw') (hu1.keep hw') (hu2.keep hw') hok.2.2 (hit k (by omega)) (hit i hi)).kk hw') ?_
      repeat refine qq ?_
      intro wb hkb 
      repeat refine zz ?_
      refine W_cond rfl (fun hd => ?_) (fun hd => ?_)
      · simp only [decide_eq_true_eq] at hd
        have hll := lay_lt hfi hi (j := k) (by omega) hd
        have hlk := lay_nn hfi (i := k) (by omega)
        have hub := lay_ub L e (gi L (k : Int)).id
        repeat refine zz ?_
        refine o_call rfl rfl rfl (ih (hLa.keep hkb) (hea.keep hkb) (show k < L.length by omega) (by omega)) ?_
        rintro _ wc ⟨rfl, hkc⟩
        repeat refine zz ?_
        refine WL_pure rfl rfl (o_max rfl rfl) ?_
        repeat refine zz ?_
        exact ⟨k + 1, ⟨rfl, rfl, rfl, find_int rfl (by rw [hms, if_pos hd]), rfl, trivial⟩, ⟨hka.keep (hkb.keep hkc), by omega⟩, by omega⟩
      · simp only [decide_eq_false_iff_not] at hd
        repeat refine zz ?_
        exact ⟨k + 1, ⟨rfl, rfl, rfl, find_int rfl (by rw [hms, if_neg hd]), rfl, trivial⟩, ⟨hka.keep hkb, by omega⟩, by omega⟩
    · simp at hc
      obtain rfl : k = n := by omega
      repeat refine zz ?_
      exact ret1 rfl rfl ⟨by rw [← mxN_eq hfi hi, hnx], hka⟩

set_option maxHeartbeats 1000000 in
theorem spec_LayerOf_ok {w : World} {v u : Value} {L : List Itm} {e : List Nod} {fp gp : List Nat} (hL : Sl itemR w v L fp) (he : Sl nodeR w u e gp) (id : Int) (hn : e.length + totN e ≤ 1048576) :
    Run Try.prog 74 [v, u, .int .i64 id] w (fun r w' => r = .int .i64 (lyr (layersOf L e) id) ∧ Keep w w') := by
  refine Run_intro Try.func74 (by unfold CallOk; kernel_rfl) rfl Try.ntmps74 (Nat.le_of_ble_eq_true rfl) ?_
  simp only [penv, Nat.reduceAdd, Nat.zero_add]
  repeat refine zz ?_
  refine o_call rfl rfl rfl (spec_FindItem_ok hL) ?_
  rintro _ _ ⟨rfl, rfl⟩
  repeat refine zz ?_
  refine o_call rfl rfl rfl (l7Fine_ok hL he hn) ?_
  rintro _ w2 ⟨rfl, hk⟩
  repeat refine zz ?_
  refine WL_part rfl rfl (fun h => ?_) (fun h => ?_)
  · simp at h
    repeat refine zz ?_
    exact ret1 rfl rfl ⟨by rw [lyr_no (.inl h)], hk⟩
  simp at h
  repeat refine zz ?_
  refine W_cond rfl (fun h1 => ?_) (fun h1 => ?_)
  · simp only [decide_eq_true_eq] at h1
    repeat refine zz ?_
    exact ret1 rfl rfl ⟨by rw [lyr_no (.inr (by omega))], hk⟩
  simp only [decide_eq_false_iff_not] at h1
  have hlt := findI_lt L id
  have hid := findI_id (L := L) (id := id) (by omega)
  obtain ⟨i, hi⟩ : ∃ i : Nat, findI L id = (i : Int) := ⟨(findI L id).toNat, by omega⟩
  rw [hi] at hid hlt ⊢
  have hub := lay_ub L e id
  repeat refine zz ?_
  refine o_call rfl rfl rfl (l7Layer_ok h 16 (hL.keep hk) (he.keep hk) (show i < L.length by omega) (by rw [hid]; omega)) ?_
  rintro _ w3 ⟨rfl, hk3⟩
  rw [hid]
  repeat refine zz ?_
  exact ret1 rfl rfl ⟨rfl, hk.keep hk3⟩

theorem layerOf1_ok {w : World} {u : Value} {xs : List Int} {fp : List Nat} {b : Nat} {y : Int} (hx : Sl intR w u xs fp) (hb : Blk w b 3 [.int .i64 y]) : Run Try.prog 179 [u, .pointer (some ⟨b, 0, none⟩)] w (fun r w' => r = .bool (hasI xs y) ∧ Keep w w') := by
  refine Run_intro Try.func179 (by unfold CallOk; kernel_rfl) rfl Try.ntmps179 (Nat.le_of_ble_eq_true rfl) ?_
  simp only [penv, Nat.reduceAdd, Nat.zero_add]
  have hcb := hb.cell (i := 0) (v := .int .i64 y) rfl
  repeat refine zz ?_
  refine o_call rfl rfl rfl (slices_Contains_ok hx) ?_
  rintro _ _ ⟨rfl, rfl⟩
  repeat refine zz ?_
  exact ret1 rfl rfl ⟨rfl, Keep.refl _⟩

theorem slices_IndexFuncL_ok {w : World} {v : Value} {L : List (List Int)} {fp : List Nat} {f : FuncId} {ca : List Value} {p : List Int → Bool} (hx : Sl (slR intR) w v L fp)
    (hf : ∀ w' x u fp, Keep w w' → Sl intR w' u x fp → Run Try.prog f ([] ++ [u] ++ ca) w' (fun r w2 => r = .bool (p x) ∧ Keep w' w2)) :
    Run Try.prog 178 [v, .func (.func f) ([] : List Value).toArray ca.toArray] w (fun r w' => r = .int .i64 (idxB L.length fun i => p (gi L (i : Int))) ∧ Keep w w') := by
  have hn := hx.le
  obtain ⟨A, n, c, rfl, hnx⟩ := hx.split
  refine Run_intro Try.func178 (by unfold CallOk; kernel_rfl) rfl Try.ntmps178 (Nat.le_of_ble_eq_true rfl) ?_
  simp only [penv, Nat.reduceAdd, Nat.zero_add]
  repeat refine zz ?_
  refine W_loop (S := Nat) (fun k => [(0, .slice A n c), (1, .func (.func f) ([] : List Value).toArray ca.toArray), (7, .int .i64 n), (8, .int .i64 (k : Int))]) (fun k w' => Keep w w' ∧ k ≤ n ∧ ∀ i, i < k → (fun i : Nat => p (gi L (i : Int))) i = false) (fun k => n - k) 0 ⟨rfl, rfl, rfl, rfl, trivial⟩ ⟨Keep.refl _, Nat.zero_le _, fun i hi => absurd hi (by omega)⟩ ?_
  rintro k w1 ⟨hk1, hk, hall⟩
  replace hx := hx.keep hk1
  repeat refine zz ?_
  refine W_cond rfl (fun hc => ?_) (fun hc => ?_)
  · have hkn : k < n := by simp at hc; omega
    obtain ⟨hA, cs, f1, ⟨u, rfl, hu⟩, _, hcs⟩ := hx.get (i := (k : Int)) (by omega) (by omega)
    have hcell := hcs.one
    repeat refine zz ?_
    refine o_callv rfl rfl rfl rfl (hf w1 _ _ _ hk1 hu) ?_
    rintro _ w2 ⟨rfl, hk2⟩
    repeat refine zz ?_
    refine W_cond rfl (fun hd => ?_) (fun hd => ?_)
    · repeat refine zz ?_
      exact ret1 rfl rfl ⟨by rw [idxB_hit (k := k) (by omega) hall hd], hk1.keep hk2⟩
    · repeat refine zz ?_
      exact ⟨k + 1, ⟨rfl, rfl, rfl, rfl, trivial⟩, ⟨hk1.keep hk2, by omega, all_no hall hd⟩, by omega⟩
  · simp at hc
    obtain rfl : k = n := by omega
    repeat refine zz ?_
    exact ret1 rfl rfl ⟨by rw [idxB_none (by rwa [← hnx])], hk1⟩

set_option maxHeartbeats 1000000 in
theorem impl_LayerOf_ok {w : World} {v u : Value} {L : List Itm} {e : List Nod} {fp gp : List Nat} (hL : Sl itemR w v L fp) (he : Sl nodeR w u e gp) (id : Int) (hn : e.length + totN e ≤ 1048576) :
    Run Try.prog 73 [v, u, .int .i64 id] w (fun r w' => r = .int .i64 (lyr (layersOf L e) id) ∧ Keep w w') := by
  refine Run_intro Try.func73 (by unfold CallOk; kernel_rfl) rfl Try.ntmps73 (Nat.le_of_ble_eq_true rfl) ?_
  simp only [penv, Nat.reduceAdd, Nat.zero_add]
  repeat refine zz ?_
  refine o_box rfl rfl rfl ?_
  intro b w1 hal
  have hb : Blk w1 b _ [.int .i64 id] := hal.blk
  have hk := hal.kp
  replace hL := hL.keep hk
  replace he := he.keep hk
  repeat refine zz ?_
  refine o_call rfl rfl rfl (impl_LayersOf_ok hL he hn) ?_
  rintro v2 w2 ⟨hk2, f2, hs2, hf2⟩
  replace hk := hk.keep hk2
  replace hb := hb.keep hk2
  repeat refine zz ?_
  refine WL_pure rfl rfl (o_makeFunc rfl rfl) ?_
  repeat refine zz ?_
  refine o_call rfl rfl rfl (slices_IndexFuncL_ok (p := fun x => hasI x id) hs2 (fun w' x u fp hk' hu => layerOf1_ok hu (hb.keep hk'))) ?_
  rintro _ w3 ⟨rfl, hk3⟩
  repeat refine zz ?_
  exact ret1 rfl rfl ⟨by rw [lyr], hk.keep hk3⟩
end Go.E

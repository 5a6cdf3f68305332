/-
  Contracts: the smallest set of items with a regret. Conditions: as stated.
-/
import Derived.Test.YtoemiahnilmdlaaSr
import Derived.Test.YtoemiahnilmdlaaMo
import Derived.Test.YtoemiahnilmdlaaRf
set_option linter.unusedVariables false
set_option linter.unusedSimpArgs false
namespace Go.E
open Go Go.RowKit Go.Proofs
theorem gi_ids {L : List Itm} {i : Nat} (h : i < L.length) : gi (idsOf L) (i : Int) = (gi L (i : Int)).id := by
  rw [gi_lt (by rw [idsOf_len]; exact h), gi_lt h]; simp [idsOf]
theorem lexL_drop : ∀ (a b : List Int) (k : Nat), a.length = b.length → k ≤ a.length → (∀ i : Nat, i < k → gi a (i : Int) = gi b (i : Int)) → lexL a b = lexL (a.drop k) (b.drop k)
  | a, b, 0, _, _, _ => by simp
  | [], b, k + 1, h, hk, _ => by simp at hk
  | _ :: _, [], _ + 1, h, _, _ => by simp at h
  | x :: a, y :: b, k + 1, h, hk, hi => by
    have h0 : x = y := hi 0 (by omega)
    rw [List.drop_succ_cons, List.drop_succ_cons, lexL, if_pos h0]
    exact lexL_drop a b k (by simpa using h) (by simpa using hk) fun i hi' => by
      have := hi (i + 1) (by omega)
      simpa [gi] using this
attribute [local irreducible] W WL WD WE thenE inE retQ PureOp Keep Cell Cells Blk Sl Rows Own Src Fresh

theorem l11Less_ok {w : World} {v u : Value} {xs ys : List Int} {fp gp : List Nat} (hx : Sl intR w v xs fp) (hy : Sl intR w u ys gp) : Run Try.prog 107 [v, u] w (fun r w' => r = .bool (lessL xs ys) ∧ Keep w w') := by
  have hn := hx.le
  obtain ⟨A, n, c, rfl, hnx⟩ := hx.split
  obtain ⟨B, m, d, rfl, hmx⟩ := hy.split
  refine Run_intro Try.func107 (by unfold CallOk; kernel_rfl) rfl Try.ntmps107 (Nat.le_of_ble_eq_true rfl) ?_
  simp only [penv, Nat.reduceAdd, Nat.zero_add]
  repeat refine zz ?_
  refine W_cond rfl (fun hl => ?_) (fun hl => ?_)
  · simp at hl
    repeat refine zz ?_
    exact ret1 rfl rfl ⟨by rw [lessL, if_neg (by omega)]; congr 1; rw [decide_eq_decide]; omega, Keep.refl _⟩
  simp at hl
  have hnm : n = m := by omega
  subst hnm
  have hle : lessL xs ys = lexL xs ys := by rw [lessL, if_pos (by omega)]
  rw [hle]
  repeat refine zz ?_
  refine W_loop (S := Nat) (fun k => [(0, .slice A n c), (1, .slice B n d), (5, .int .i64 (k : Int))]) (fun k w' => Keep w w' ∧ k ≤ n ∧ ∀ i, i < k → gi xs (i : Int) = gi ys (i : Int)) (fun k => n - k) 0 ⟨rfl, rfl, rfl, trivial⟩ ⟨Keep.refl _, Nat.zero_le _, fun i hi => by omega⟩ ?_
  rintro k wa ⟨hka, hk, hall⟩
  have hxa := hx.keep hka
  have hya := hy.keep hka
  have hdr := lexL_drop xs ys k (by omega) (by omega) hall
  repeat refine zz ?_
  refine W_cond rfl (fun hc => ?_) (fun hc => ?_)
  · have hkn : k < n := by simp at hc; omega
    obtain ⟨hA, hcx⟩ := hxa.getI (i := (k : Int)) (by omega) (by omega)
    obtain ⟨hB, hcy⟩ := hya.getI (i := (k : Int)) (by omega) (by omega)
    rw [drop_gi (xs := xs) (k := k) (by omega), drop_gi (xs := ys) (k := k) (by omega), lexL] at hdr
    repeat refine zz ?_
    refine W_quiet (Keep wa) (by kernel_rfl) (by kernel_rfl) (Keep.drew _) ?_
    repeat refine qq ?_
    intro wb hkb 
    replace hcx := hcx.keep hkb
    replace hcy := hcy.keep hkb
    repeat refine zz ?_
    refine W_cond rfl (fun hd => ?_) (fun hd => ?_)
    · simp at hd
      rw [if_neg hd] at hdr
      repeat refine zz ?_
      refine W_quiet (Keep wb) (by kernel_rfl) (by kernel_rfl) (Keep.drew _) ?_
      repeat refine qq ?_
      intro wd hkd 
      repeat refine zz ?_
      exact ret1 rfl rfl ⟨by rw [hdr], (hka.keep hkb).keep hkd⟩
    · simp at hd
      repeat refine zz ?_
      exact ⟨k + 1, ⟨rfl, rfl, rfl, trivial⟩, ⟨hka.keep hkb, by omega, fun i hi => by
        rcases Nat.lt_or_ge i k with h1 | h1
        · exact hall i h1
        · obtain rfl : i = k := by omega
          exact hd⟩, by omega⟩
  · simp at hc
    obtain rfl : k = n := by omega
    repeat refine zz ?_
    exact ret1 rfl rfl ⟨by rw [hdr, List.drop_of_length_le (by omega)]; rfl, hka⟩

theorem bit_iff (m i : Nat) : decide (((m / 2 ^ i % 2 : Nat) : Int) = 1) = m.testBit i := by
  rw [Nat.testBit_eq_decide_div_mod_eq, decide_eq_decide]; omega

theorem l11Set_ok {w : World} {v : Value} {L : List Itm} {fp : List Nat} (hL : Sl itemR w v L fp) (m : Nat) (hl : L.length ≤ 8) :
    Run Try.prog 106 [v, .int .i64 (m : Int)] w (fun r w' => Keep w w' ∧ OwnF intR w' w.heap.size 3 r (setN (idsOf L) m L.length) []) := by
  obtain ⟨A, n, c, rfl, hnx⟩ := hL.split
  refine Run_intro Try.func106 (by unfold CallOk; kernel_rfl) rfl Try.ntmps106 (Nat.le_of_ble_eq_true rfl) ?_
  simp only [penv, Nat.reduceAdd, Nat.zero_add]
  repeat refine zz ?_
  refine o_buildSlice rfl rfl rfl rfl rfl (by intro p hp; cases hp) (by omega) ?_
  intro b0 w1 hal
  have hk1 := hal.kp
  have ho1 : OwnF intR w1 w.heap.size 3 (.slice (some ⟨b0, 0, none⟩) 0 0) [] [] := OwnF.made hal.blk (by have := hal.b_eq; omega)
  repeat refine zz ?_
  refine W_loop (S := Nat × Value) (fun s => [(0, .slice A n c), (1, .int .i64 (m : Int)), (5, s.2), (6, .int .i64 (s.1 : Int))]) (fun s w' => Keep w w' ∧ s.1 ≤ n ∧ OwnF intR w' w.heap.size 3 s.2 (setN (idsOf L) m s.1) []) (fun s => n - s.1) (0, _) ⟨rfl, rfl, rfl, rfl, trivial⟩ ⟨hk1, by omega, ho1⟩ ?_
  clear hk1 ho1 hal
  rintro ⟨k, va⟩ wa ⟨hka, hk, hoa⟩
  dsimp only at hk hoa ⊢
  replace hL := hL.keep hka
  repeat refine zz ?_
  refine W_cond rfl (fun hc => ?_) (fun hc => ?_)
  · have hkn : k < n := by simp at hc; omega
    obtain ⟨hA, u, f1, hcell, hu, _⟩ := item_get hL (i := (k : Int)) (by omega) (by omega)
    have hl2 := setN_len (idsOf L) m k
    have hs := setN_succ (idsOf L) m k
    rw [gi_ids (by omega)] at hs
    repeat refine zz ?_
    refine WL_pure rfl rfl (o_shrN rfl rfl (by omega)) ?_
    refine WL_pure rfl rfl (o_and1 rfl rfl) ?_
    repeat refine zz ?_
    rw [bit_iff]
    refine W_cond rfl (fun hd => ?_) (fun hd => ?_)
    · rw [if_pos hd] at hs
      repeat refine zz ?_
      refine o_buildSlice rfl rfl rfl rfl rfl (by simp [Value.cells]) (by omega) ?_
      intro bB wB halB
      have hzB := halB.size
      have hzK := hka.size_le
      replace hka := hka.keep halB.kp
      replace hoa := hoa.keep halB.kp
      repeat refine zz ?_
      refine o_appendF (R := intR) (M := _) (gi := []) rfl rfl rfl rfl rfl (by decide) hoa (Blk.src (xs := [(gi L (k : Int)).id]) halB.blk (Rows.ints _ _)) rfl (Fresh.nil _ _) (fun b hb => by simp at hb) (fun b hb => (hoa.lt hb).2) (fun b hb => by simp at hb) (by simp only [List.length_cons, List.length_nil]; omega) (by simp only [List.length_cons, List.length_nil]; omega) (by omega) ?_
      intro vN wN hoN hbN hgN
      have hkN : Keep w wN := hka.grown hgN (fun b hb => (hoa.lt hb).1)
      repeat refine zz ?_
      exact ⟨(k + 1, vN), ⟨rfl, rfl, rfl, rfl, trivial⟩, ⟨hkN, by dsimp only; omega, by dsimp only; rw [hs]; exact hoN⟩, by dsimp only; omega⟩
    · rw [if_neg (by simp [hd]), List.append_nil] at hs
      repeat refine zz ?_
      exact ⟨(k + 1, va), ⟨rfl, rfl, rfl, rfl, trivial⟩, ⟨hka, by dsimp only; omega, by dsimp only; rw [hs]; exact hoa⟩, by dsimp only; omega⟩
  · simp at hc
    obtain rfl : k = n := by omega
    rw [hnx] at hoa
    repeat refine zz ?_
    exact ret1 rfl rfl ⟨hka, hoa⟩

theorem okSet_bd (L : List Itm) (ids : List Int) {p q : Int} (hp : 0 ≤ p ∧ p ≤ 100) (hq : 1 ≤ q ∧ q ≤ 100) : (-9223372036854775808 ≤ (regret L ids).1 * q ∧ (regret L ids).1 * q ≤ 9223372036854775807) ∧ (-9223372036854775808 ≤ p * (regret L ids).2.1 ∧ p * (regret L ids).2.1 ≤ 9223372036854775807) := by
  have h := regret_bd L ids
  have h1 : 0 ≤ (regret L ids).1 * q := Int.mul_nonneg h.1.1 (by omega)
  have h2 : (regret L ids).1 * q ≤ 81 * 100 := Int.mul_le_mul h.1.2 hq.2 (by omega) (by omega)
  have h3 : 0 ≤ p * (regret L ids).2.1 := Int.mul_nonneg hp.1 (by omega)
  have h4 : p * (regret L ids).2.1 ≤ 100 * 81 := Int.mul_le_mul hp.2 h.2.1.2 (by omega) (by omega)
  omega
theorem bestM_none {ok : List Int → Bool} {ids s : List Int} {m : Nat} (h : bestM ok ids m = none) (hs : setN ids m ids.length = s) : bestM ok ids (m + 1) = if ok s then some s else none := by rw [bestM, h, hs]
theorem bestM_skip {ok : List Int → Bool} {ids s b : List Int} {m : Nat} (h : bestM ok ids m = some b) (hs : setN ids m ids.length = s) (hl : lessL s b = false) : bestM ok ids (m + 1) = some b := by rw [bestM, h, hs]; simp [hl]
theorem bestM_less {ok : List Int → Bool} {ids s b : List Int} {m : Nat} (h : bestM ok ids m = some b) (hs : setN ids m ids.length = s) (hl : lessL s b = true) : bestM ok ids (m + 1) = if ok s then some s else some b := by rw [bestM, h, hs]; simp [hl]
attribute [local irreducible] okSet smOk bestM setN regret areItems lessL

set_option maxHeartbeats 2000000 in
theorem spec_SmallestSet_ok {w : World} {v : Value} {L : List Itm} {fp : List Nat} (hL : Sl itemR w v L fp) (p q : Int) :
    Run Try.prog 13 [v, .int .i64 p, .int .i64 q] w (fun r w' => Keep w w' ∧ ∃ u f, r = .tuple #[u, .bool (smallest L p q).isSome] ∧ Sl intR w' u ((smallest L p q).getD []) f ∧ Fresh w.heap.size w' f) := by
  obtain ⟨A, n, c, rfl, hnx⟩ := hL.split
  have hg : smOk L p q = (areItems L && decide (L.length ≤ 8) && inR q 1 100 && inR p 0 q) := by unfold smOk; rfl
  refine Run_intro Try.func13 (by unfold CallOk; kernel_rfl) rfl Try.ntmps13 (Nat.le_of_ble_eq_true rfl) ?_
  simp only [penv, Nat.reduceAdd, Nat.zero_add]
  repeat refine zz ?_
  refine o_buildSlice rfl rfl rfl rfl rfl (by intro p hp; cases hp) (by omega) ?_
  intro b0 w1 hal
  have hk1 := hal.kp
  have ho1 : OwnF intR w1 w.heap.size 3 (.slice (some ⟨b0, 0, none⟩) 0 0) [] [] := OwnF.made hal.blk (by have := hal.b_eq; omega)
  replace hL := hL.keep hk1
  have hno : smOk L p q = false → ∀ wz, Keep w1 wz → Keep w wz ∧ ∃ u f, Value.tuple #[.slice (some ⟨b0, 0, none⟩) 0 0, .bool false] = .tuple #[u, .bool (smallest L p q).isSome] ∧ Sl intR wz u ((smallest L p q).getD []) f ∧ Fresh w.heap.size wz f := by
    intro h wz hz
    have e : smallest L p q = none := by rw [smallest, if_neg (by simp [h])]
    rw [e]
    obtain ⟨f, hs, hf⟩ := (ho1.keep hz).sl (by decide)
    exact ⟨hk1.keep hz, _, f, rfl, hs, hf⟩
  repeat refine zz ?_
  refine o_call rfl rfl rfl (spec_AreItems_ok hL) ?_
  rintro _ w2 ⟨rfl, k2⟩
  replace hL := hL.keep k2
  repeat refine zz ?_
  refine WL_part rfl rfl (fun h1 => ?_) (fun h1 => ?_)
  · simp at h1
    repeat refine zz ?_
    exact ret2 rfl rfl rfl (hno (by rw [hg, h1]; rfl) _ k2)
  simp at h1
  repeat refine zz ?_
  refine WL_part rfl rfl (fun h2 => ?_) (fun h2 => ?_)
  · simp at h2
    repeat refine zz ?_
    exact ret2 rfl rfl rfl (hno (by rw [hg]; simp; intros; omega) _ k2)
  simp at h2
  repeat refine zz ?_
  refine o_call rfl rfl rfl (l1In_ok q 1 100 _) ?_
  rintro _ _ ⟨rfl, rfl⟩
  repeat refine zz ?_
  refine WL_part rfl rfl (fun h3 => ?_) (fun h3 => ?_)
  · simp at h3
    repeat refine zz ?_
    exact ret2 rfl rfl rfl (hno (by rw [hg, h3]; simp) _ k2)
  simp at h3
  repeat refine zz ?_
  refine o_call rfl rfl rfl (l1In_ok p 0 q _) ?_
  rintro _ _ ⟨rfl, rfl⟩
  repeat refine zz ?_
  refine W_cond rfl (fun h4 => ?_) (fun h4 => ?_)
  · simp at h4
    repeat refine zz ?_
    exact ret2 rfl rfl rfl (hno (by rw [hg, h4]; simp) _ k2)
  simp at h4
  have hgt : smOk L p q = true := by rw [hg, h1, h3, h4]; simp; omega
  obtain ⟨_, hl8, hq, hp⟩ := smOk_parts hgt
  have hn8 : n ≤ 8 := by omega
  have h256 : (2 : Nat) ^ n ≤ 2 ^ 8 := Nat.pow_le_pow_right (by decide) hn8
  have hfin : smallest L p q = bestM (okSet L p q) (idsOf L) (2 ^ n) := by rw [smallest, if_pos hgt, hnx]
  rw [hfin]
  have hok : ∀ ids, decide ((regret L ids).1 * q ≤ p * (regret L ids).2.1) = okSet L p q ids := fun ids => by unfold okSet; rfl
  repeat refine zz ?_
  refine W_loop (S := Nat × Value) (fun s => [(0, .slice A n c), (1, .int .i64 p), (2, .int .i64 q), (8, s.2), (9, .bool (bestM (okSet L p q) (idsOf L) s.1).isSome), (10, .int .i64 (s.1 : Int))]) (fun s w' => Keep w w' ∧ s.1 ≤ 2 ^ n ∧ Sl itemR w' (.slice A n c) L fp ∧ OwnF intR w' w.heap.size 3 s.2 ((bestM (okSet L p q) (idsOf L) s.1).getD []) []) (fun s => 2 ^ n - s.1) (0, _) ⟨rfl, rfl, rfl, rfl, find_val rfl (by unfold bestM; rfl), rfl, trivial⟩ ⟨hk1.keep k2, Nat.zero_le _, hL, by unfold bestM; exact ho1.keep k2⟩ ?_
  clear hno ho1 hal hk1 k2 hL
  rintro ⟨m, va⟩ wa ⟨hka, hm, hL, hoa⟩
  dsimp only at hm hoa ⊢
  have hza := hka.size_le
  repeat refine zz ?_
  refine WL_pure rfl rfl (o_shl1 rfl rfl (by omega)) ?_
  repeat refine zz ?_
  refine W_cond rfl (fun hc => ?_) (fun hc => ?_)
  · have hml : m < 2 ^ n := by simp only [decide_eq_true_eq] at hc; generalize 2 ^ n = q at hc hm; omega
    repeat refine zz ?_
    refine o_call rfl rfl rfl (l11Set_ok hL m hl8) ?_
    rintro vs w3 ⟨k3, hos⟩
    replace hos := hos.base hza
    replace hL := hL.keep k3
    replace hoa := hoa.keep k3
    replace hka := hka.keep k3
    generalize hset : setN (idsOf L) m L.length = s at hos
    have hset' : setN (idsOf L) m (idsOf L).length = s := by rw [idsOf_len]; exact hset
    obtain ⟨hbd1, hbd2⟩ := okSet_bd L s (p := p) (q := q) (by omega) hq
    obtain ⟨fs, hss, _⟩ := hos.sl (by decide)
    cases hb : bestM (okSet L p q) (idsOf L) m with
    | none =>
      rw [hb] at hoa
      have hst := bestM_none hb hset'
      repeat refine zz ?_
      refine o_call rfl rfl rfl (spec_RegretOf_ok hL hss) ?_
      rintro _ w4 ⟨k4, u4, f4, rfl, hs4, _⟩
      replace hL := hL.keep k4
      replace hoa := hoa.keep k4
      replace hka := hka.keep k4
      replace hos := hos.keep k4
      repeat refine zz ?_
      refine WL_pure rfl rfl (o_mul rfl rfl hbd1) ?_
      repeat refine zz ?_
      refine WL_pure rfl rfl (o_mul rfl rfl hbd2) ?_
      repeat refine zz ?_
      rw [hok]
      refine W_cond rfl (fun hd => ?_) (fun hd => ?_)
      · repeat refine zz ?_
        exact ⟨(m + 1, vs), ⟨rfl, rfl, rfl, rfl, find_val rfl (by dsimp only; rw [hst, if_pos hd]; try rfl), rfl, trivial⟩, ⟨hka, by dsimp only; omega, hL, by dsimp only; rw [hst, if_pos hd]; exact hos⟩, by dsimp only; omega⟩
      · repeat refine zz ?_
        exact ⟨(m + 1, va), ⟨rfl, rfl, rfl, rfl, find_val rfl (by dsimp only; rw [hst, if_neg (by simp [hd])]; try rfl), rfl, trivial⟩, ⟨hka, by dsimp only; omega, hL, by dsimp only; rw [hst, if_neg (by simp [hd])]; exact hoa⟩, by dsimp only; omega⟩
    | some b =>
      rw [hb] at hoa
      obtain ⟨fb, hsb, _⟩ := hoa.sl (by decide)
      repeat refine zz ?_
      refine o_call rfl rfl rfl (l11Less_ok hss hsb) ?_
      rintro _ w5 ⟨rfl, k5⟩
      replace hL := hL.keep k5
      replace hoa := hoa.keep k5
      replace hka := hka.keep k5
      replace hos := hos.keep k5
      replace hss := hss.keep k5
      repeat refine zz ?_
      cases hl : lessL s b with
      | false =>
        have hst := bestM_skip hb hset' hl
        have hl' : lessL s ((some b).getD []) = false := hl
        rw [hl']
        repeat refine zz ?_
        exact ⟨(m + 1, va), ⟨rfl, rfl, rfl, rfl, find_val rfl (by dsimp only; rw [hst]; try rfl), rfl, trivial⟩, ⟨hka, by dsimp only; omega, hL, by dsimp only; rw [hst]; exact hoa⟩, by dsimp only; omega⟩
      | true =>
        have hst := bestM_less hb hset' hl
        have hl' : lessL s ((some b).getD []) = true := hl
        rw [hl']
        repeat refine zz ?_
        refine o_call rfl rfl rfl (spec_RegretOf_ok hL hss) ?_
        rintro _ w4 ⟨k4, u4, f4, rfl, hs4, _⟩
        replace hL := hL.keep k4
        replace hoa := hoa.keep k4
        replace hka := hka.keep k4
        replace hos := hos.keep k4
        repeat refine zz ?_
        refine WL_pure rfl rfl (o_mul rfl rfl hbd1) ?_
        repeat refine zz ?_
        refine WL_pure rfl rfl (o_mul rfl rfl hbd2) ?_
        repeat refine zz ?_
        rw [hok]
        refine W_cond rfl (fun hd => ?_) (fun hd => ?_)
        · repeat refine zz ?_
          exact ⟨(m + 1, vs), ⟨rfl, rfl, rfl, rfl, find_val rfl (by dsimp only; rw [hst, if_pos hd]; try rfl), rfl, trivial⟩, ⟨hka, by dsimp only; omega, hL, by dsimp only; rw [hst, if_pos hd]; exact hos⟩, by dsimp only; omega⟩
        · repeat refine zz ?_
          exact ⟨(m + 1, va), ⟨rfl, rfl, rfl, rfl, find_val rfl (by dsimp only; rw [hst, if_neg (by simp [hd])]; try rfl), rfl, trivial⟩, ⟨hka, by dsimp only; omega, hL, by dsimp only; rw [hst, if_neg (by simp [hd])]; exact hoa⟩, by dsimp only; omega⟩
  · have hml : m = 2 ^ n := by simp only [decide_eq_false_iff_not] at hc; generalize 2 ^ n = q at hc hm; omega
    subst hml
    obtain ⟨f, hs, hf⟩ := hoa.sl (by decide)
    repeat refine zz ?_
    exact ret2 rfl rfl rfl ⟨hka, _, f, rfl, hs, hf⟩
end Go.E

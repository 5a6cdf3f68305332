/-
  Dividing items into halves: plain laws, and the reference's contract. Conditions: as stated.
-/
import Derived.Test.YtdenoambgonomaaGreatM4
import Derived.Test.YtdenoambgonomaaGreatRs
import Derived.Test.YtdenoambgonomaaGreatFi
set_option linter.unusedVariables false
set_option linter.unusedSimpArgs false
namespace Go.E
open Go Go.RowKit Go.Proofs
def divP (L : List Itm) (e : List Nod) : Nat → List Itm → List Int × Int
  | 0, M => (idsOf M, 0)
  | n + 1, M => if M.length ≤ 1 then (idsOf M, 0) else
      (mrg L e (divP L e n (M.take (M.length / 2))).1 (divP L e n (M.drop (M.length / 2))).1,
       (divP L e n (M.take (M.length / 2))).2 + (divP L e n (M.drop (M.length / 2))).2 + ((divP L e n (M.take (M.length / 2))).1.length : Int) * ((divP L e n (M.drop (M.length / 2))).1.length : Int))
theorem divP_one {L : List Itm} {e : List Nod} {n : Nat} {M : List Itm} (h : M.length ≤ 1) : divP L e n M = (idsOf M, 0) := by
  cases n with
  | zero => rfl
  | succ n => rw [divP, if_pos h]
theorem divP_more {L : List Itm} {e : List Nod} {n : Nat} {M : List Itm} (h : ¬ M.length ≤ 1) : divP L e (n + 1) M = (mrg L e (divP L e n (M.take (M.length / 2))).1 (divP L e n (M.drop (M.length / 2))).1,
       (divP L e n (M.take (M.length / 2))).2 + (divP L e n (M.drop (M.length / 2))).2 + ((divP L e n (M.take (M.length / 2))).1.length : Int) * ((divP L e n (M.drop (M.length / 2))).1.length : Int)) := by rw [divP, if_neg h]
theorem mem_mrg {L : List Itm} {e : List Nod} {a b : List Int} {y : Int} (h : y ∈ mrg L e a b) : y ∈ a ∨ y ∈ b := by
  have h1 := (sortP_perm id (mrgU L e a b)).mem_iff.1 h
  rw [mrgU, List.mem_append] at h1
  rcases h1 with h1 | h1
  · exact .inl (List.mem_filter.1 h1).1
  · exact .inr (List.mem_filter.1 h1).1
theorem divP_mem {L : List Itm} {e : List Nod} : ∀ (n : Nat) (M : List Itm) (y : Int), y ∈ (divP L e n M).1 → ∃ x, x ∈ M ∧ x.id = y := by
  intro n
  induction n with
  | zero => intro M y h; simpa [divP, idsOf] using h
  | succ n ih =>
    intro M y h
    by_cases h1 : M.length ≤ 1
    · rw [divP_one h1] at h; simpa [idsOf] using h
    · rw [divP_more h1] at h
      rcases mem_mrg h with h | h
      · obtain ⟨x, hx, he⟩ := ih _ _ h; exact ⟨x, List.mem_of_mem_take hx, he⟩
      · obtain ⟨x, hx, he⟩ := ih _ _ h; exact ⟨x, List.mem_of_mem_drop hx, he⟩
theorem divP_len {L : List Itm} {e : List Nod} : ∀ (n : Nat) (M : List Itm), (divP L e n M).1.length ≤ M.length := by
  intro n
  induction n with
  | zero => intro M; simp [divP, idsOf]
  | succ n ih =>
    intro M
    by_cases h1 : M.length ≤ 1
    · rw [divP_one h1]; simp [idsOf]
    · rw [divP_more h1]
      have h2 := mrg_len L e (divP L e n (M.take (M.length / 2))).1 (divP L e n (M.drop (M.length / 2))).1
      have h3 := ih (M.take (M.length / 2))
      have h4 := ih (M.drop (M.length / 2))
      rw [List.length_take] at h3
      rw [List.length_drop] at h4
      dsimp only; omega
theorem mul_le2 {a b c d : Int} (h0 : 0 ≤ a) (h1 : a ≤ b) (h2 : 0 ≤ c) (h3 : c ≤ d) : 0 ≤ a * c ∧ a * c ≤ b * d :=
  ⟨Int.mul_nonneg h0 h2, Int.le_trans (Int.mul_le_mul_of_nonneg_right h1 h2) (Int.mul_le_mul_of_nonneg_left h3 (by omega))⟩
/-- not more tests than all pairs -/
theorem divP_tests {L : List Itm} {e : List Nod} : ∀ (n : Nat) (M : List Itm), 0 ≤ (divP L e n M).2 ∧ 2 * (divP L e n M).2 ≤ (M.length : Int) * ((M.length : Int) - 1) := by
  have base : ∀ k : Nat, 0 ≤ (k : Int) * ((k : Int) - 1) := fun k => by
    cases k with
    | zero => simp
    | succ k => exact Int.mul_nonneg (by omega) (by omega)
  intro n
  induction n with
  | zero => intro M; exact ⟨Int.le_refl _, by simpa [divP] using base M.length⟩
  | succ n ih =>
    intro M
    by_cases h1 : M.length ≤ 1
    · rw [divP_one h1]; exact ⟨Int.le_refl _, by simpa using base M.length⟩
    · rw [divP_more h1]
      have a1 := ih (M.take (M.length / 2))
      have a2 := ih (M.drop (M.length / 2))
      have l1 := divP_len (L := L) (e := e) n (M.take (M.length / 2))
      have l2 := divP_len (L := L) (e := e) n (M.drop (M.length / 2))
      have e1 : (M.take (M.length / 2)).length = M.length / 2 := by rw [List.length_take]; omega
      have e2 : (M.drop (M.length / 2)).length = M.length - M.length / 2 := List.length_drop
      rw [e1] at a1 l1
      rw [e2] at a2 l2
      generalize hk : M.length / 2 = k at *
      generalize hm : M.length - k = m at *
      have hs : M.length = k + m := by omega
      have hp := mul_le2 (a := ((divP L e n (M.take k)).1.length : Int)) (b := k) (c := ((divP L e n (M.drop k)).1.length : Int)) (d := m) (by omega) (by omega) (by omega) (by omega)
      rw [hs]
      have ex : ((k + m : Nat) : Int) * (((k + m : Nat) : Int) - 1) = (k : Int) * ((k : Int) - 1) + (m : Int) * ((m : Int) - 1) + 2 * ((k : Int) * (m : Int)) := by
        rw [Int.natCast_add, Int.mul_sub, Int.mul_sub, Int.mul_sub, Int.add_mul, Int.mul_add, Int.mul_add, Int.mul_comm (m : Int) (k : Int)]; omega
      rw [ex]
      dsimp only
      constructor <;> omega
theorem divP_small {L : List Itm} {e : List Nod} {n : Nat} {M : List Itm} (h : M.length ≤ 16) : 0 ≤ (divP L e n M).2 ∧ (divP L e n M).2 ≤ 256 := by
  have h1 := divP_tests (L := L) (e := e) n M
  have h2 : (M.length : Int) * ((M.length : Int) - 1) ≤ 16 * 15 := by
    rcases Nat.eq_zero_or_pos M.length with h0 | h0
    · rw [h0]; simp
    · exact (mul_le2 (by omega) (by omega) (by omega) (by omega)).2
  omega
theorem divP_known {L : List Itm} {e : List Nod} {n : Nat} {M : List Itm} (hs : ∀ x, x ∈ M → x ∈ L) : areKnown L (divP L e n M).1 = true := by
  refine allB_true fun i hi => ?_
  have hm : gi (divP L e n M).1 (i : Int) ∈ (divP L e n M).1 := by rw [gi_lt hi]; exact List.getElem_mem _
  obtain ⟨x, hx, he⟩ := divP_mem n M _ hm
  rw [← he]
  simpa using find_nn (hs x hx)
def divide (L : List Itm) (e : List Nod) : List Int × Int := if fine L e then divP L e L.length L else ([], 0)
theorem divide_len (L : List Itm) (e : List Nod) : (divide L e).1.length ≤ 16 := by
  unfold divide
  split
  · rename_i h; have := divP_len (L := L) (e := e) L.length L; have := (fine_ok h).2.1; omega
  · simp
theorem divide_n (L : List Itm) (e : List Nod) : 0 ≤ (divide L e).2 ∧ (divide L e).2 ≤ 256 := by
  unfold divide
  split
  · rename_i h; exact divP_small (fine_ok h).2.1
  · simp
theorem seg_take {L : List Itm} {a b h : Nat} (hb : b ≤ L.length) (hh : a + h ≤ b) : ((L.take b).drop a).take h = (L.take (a + h)).drop a := by
  rw [List.take_drop, List.take_take]; congr 2; omega
theorem seg_drop {L : List Itm} {a b h : Nat} : ((L.take b).drop a).drop h = (L.take b).drop (a + h) := by rw [List.drop_drop]
theorem seg_len {L : List Itm} {a b : Nat} (hb : b ≤ L.length) : ((L.take b).drop a).length = b - a := by rw [List.length_drop, List.length_take]; omega
theorem seg_mem {L : List Itm} {a b : Nat} {x : Itm} (h : x ∈ (L.take b).drop a) : x ∈ L := List.mem_of_mem_take (List.mem_of_mem_drop h)
theorem ids_step {L : List Itm} {a i : Nat} (h : a ≤ i) (hi : i < L.length) : idsOf ((L.take (i + 1)).drop a) = idsOf ((L.take i).drop a) ++ [(gi L (i : Int)).id] := by
  rw [take_gi hi, List.drop_append_of_le_length (by rw [List.length_take]; omega)]
  simp [idsOf]
theorem half_eq (k : Nat) (h : k ≤ 1048576) : IntKind.i64.wrap ((k : Int).tdiv 2) = ((k / 2 : Nat) : Int) := by
  rw [show (k : Int).tdiv 2 = ((k / 2 : Nat) : Int) from (Int.ofNat_tdiv k 2).symm ▸ rfl, wrap_i64 (by omega) (by omega)]
attribute [local irreducible] W WL WD WE thenE inE retQ PureOp Keep Cell Cells Blk Sl Rows Own Src Fresh
attribute [local irreducible] divP mrg idsOf

set_option maxHeartbeats 4000000 in
theorem l8Divide_ok {L : List Itm} {e : List Nod} (hex : isExpr e = true) (hit : ∀ i : Nat, i < L.length → isItem (gi L (i : Int)) = true) (hln : L.length ≤ 16) : ∀ (M : Nat) {w : World} {v u : Value} {fp gp : List Nat} {a b : Nat} (hL : Sl itemR w v L fp) (he : Sl nodeR w u e gp), a ≤ b → b ≤ L.length → b - a ≤ M →
    Run Tryz.prog 87 [v, u, .int .i64 (a : Int), .int .i64 (b : Int)] w (fun r w' => Keep w w' ∧ ∃ x f, r = .tuple #[x, .int .i64 (divP L e M ((L.take b).drop a)).2] ∧ Sl intR w' x (divP L e M ((L.take b).drop a)).1 f ∧ Fresh w.heap.size w' f) := by
  intro M
  induction M with
  | zero =>
    intro w v u fp gp a b hL he hab hbl hn
    generalize hM : (0 : Nat) = M
    obtain ⟨A, n, c, rfl, hnx⟩ := hL.split
    refine Run_intro Tryz.func87 (by unfold CallOk; kernel_rfl) rfl Tryz.ntmps87 (Nat.le_of_ble_eq_true rfl) ?_
    simp only [penv, Nat.reduceAdd, Nat.zero_add]
    repeat refine zz ?_
    refine W_cond rfl (fun hq => ?_) (fun hq => ?_)
    · have hlen := seg_len (L := L) (a := a) hbl
      repeat refine zz ?_
      refine o_buildSlice rfl rfl rfl rfl rfl (by intro p hp; cases hp) (by omega) ?_
      intro bO wO halO
      have hkO := halO.kp
      have ho0 : OwnF intR wO w.heap.size 3 (.slice (some ⟨bO, 0, none⟩) 0 0) (idsOf ((L.take a).drop a)) [] := by
        have e : idsOf ((L.take a).drop a) = [] := by rw [List.drop_of_length_le (by rw [List.length_take]; omega)]; simp [idsOf]
        rw [e]; exact OwnF.made halO.blk (by have := halO.b_eq; omega)
      repeat refine zz ?_
      refine W_loop (S := Nat × Value) (fun s => [(0, .slice A n c), (3, .int .i64 (b : Int)), (10, s.2), (11, .int .i64 (s.1 : Int))]) (fun s w' => Keep w w' ∧ a ≤ s.1 ∧ s.1 ≤ b ∧ OwnF intR w' w.heap.size 3 s.2 (idsOf ((L.take s.1).drop a)) []) (fun s => b - s.1) (a, _) ⟨rfl, rfl, rfl, rfl, trivial⟩ ⟨hkO, Nat.le_refl _, hab, ho0⟩ ?_
      rintro ⟨i, vo⟩ wa ⟨hka, hi0, hi1, hoa⟩
      dsimp only at hi0 hi1 hoa ⊢
      have hll : (idsOf ((L.take i).drop a)).length ≤ 16 := by rw [idsOf_len, List.length_drop, List.length_take]; omega
      repeat refine zz ?_
      refine W_cond rfl (fun hc => ?_) (fun hc => ?_)
      · have hin : i < b := by simp at hc; omega
        obtain ⟨hA, u1, f1, hcell1, _, _⟩ := item_get (hL.keep hka) (i := (i : Int)) (by omega) (by omega)
        have hstep := ids_step (L := L) (a := a) (i := i) hi0 (by omega)
        repeat refine zz ?_
        refine o_buildSlice rfl rfl rfl rfl rfl (by simp [Value.cells]) (by omega) ?_
        intro b5 w5 hal5
        have hk5 := hka.keep hal5.kp
        have ho5 := hoa.keep hal5.kp
        have hz5 := hk5.size_le
        repeat refine zz ?_
        refine o_appendF (R := intR) (M := _) (gi := []) rfl rfl rfl rfl rfl (by decide) ho5 (Blk.src (xs := [(gi L (i : Int)).id]) hal5.blk (Rows.ints _ _)) rfl (Fresh.nil _ _) (fun b hb => by simp at hb) (fun b hb => (ho5.lt hb).2) (fun b hb => by simp at hb) (by simp only [List.length_append, List.length_cons, List.length_nil]; omega) (by simp only [List.length_append, List.length_cons, List.length_nil]; omega) (by omega) ?_
        intro vN wN hoN hbN hgN
        repeat refine zz ?_
        refine ⟨(i + 1, vN), ⟨rfl, rfl, rfl, rfl, trivial⟩, ⟨hk5.grown hgN (fun b hb => (ho5.lt hb).1), by dsimp only; omega, by dsimp only; omega, ?_⟩, by dsimp only; omega⟩
        dsimp only
        rw [hstep]; exact hoN
      · simp at hc
        obtain rfl : b = i := by omega
        repeat refine zz ?_
        obtain ⟨fs, hs, hf⟩ := hoa.sl (by decide)
        have hone := divP_one (L := L) (e := e) (n := M) (M := (L.take b).drop a) (by omega)
        refine ret2 rfl rfl rfl ⟨hka, _, fs, by rw [hone], by rw [hone]; exact hs, hf⟩
    · exfalso; simp at hq; omega
  | succ N ih =>
    intro w v u fp gp a b hL he hab hbl hn
    obtain ⟨A, n, c, rfl, hnx⟩ := hL.split
    refine Run_intro Tryz.func87 (by unfold CallOk; kernel_rfl) rfl Tryz.ntmps87 (Nat.le_of_ble_eq_true rfl) ?_
    simp only [penv, Nat.reduceAdd, Nat.zero_add]
    repeat refine zz ?_
    refine W_cond rfl (fun hq => ?_) (fun hq => ?_)
    · simp at hq
      generalize hM : N + 1 = M
      clear ih
      have hlen := seg_len (L := L) (a := a) hbl
      repeat refine zz ?_
      refine o_buildSlice rfl rfl rfl rfl rfl (by intro p hp; cases hp) (by omega) ?_
      intro bO wO halO
      have hkO := halO.kp
      have ho0 : OwnF intR wO w.heap.size 3 (.slice (some ⟨bO, 0, none⟩) 0 0) (idsOf ((L.take a).drop a)) [] := by
        have e : idsOf ((L.take a).drop a) = [] := by rw [List.drop_of_length_le (by rw [List.length_take]; omega)]; simp [idsOf]
        rw [e]; exact OwnF.made halO.blk (by have := halO.b_eq; omega)
      repeat refine zz ?_
      refine W_loop (S := Nat × Value) (fun s => [(0, .slice A n c), (3, .int .i64 (b : Int)), (10, s.2), (11, .int .i64 (s.1 : Int))]) (fun s w' => Keep w w' ∧ a ≤ s.1 ∧ s.1 ≤ b ∧ OwnF intR w' w.heap.size 3 s.2 (idsOf ((L.take s.1).drop a)) []) (fun s => b - s.1) (a, _) ⟨rfl, rfl, rfl, rfl, trivial⟩ ⟨hkO, Nat.le_refl _, hab, ho0⟩ ?_
      rintro ⟨i, vo⟩ wa ⟨hka, hi0, hi1, hoa⟩
      dsimp only at hi0 hi1 hoa ⊢
      have hll : (idsOf ((L.take i).drop a)).length ≤ 16 := by rw [idsOf_len, List.length_drop, List.length_take]; omega
      repeat refine zz ?_
      refine W_cond rfl (fun hc => ?_) (fun hc => ?_)
      · have hin : i < b := by simp at hc; omega
        obtain ⟨hA, u1, f1, hcell1, _, _⟩ := item_get (hL.keep hka) (i := (i : Int)) (by omega) (by omega)
        have hstep := ids_step (L := L) (a := a) (i := i) hi0 (by omega)
        repeat refine zz ?_
        refine o_buildSlice rfl rfl rfl rfl rfl (by simp [Value.cells]) (by omega) ?_
        intro b5 w5 hal5
        have hk5 := hka.keep hal5.kp
        have ho5 := hoa.keep hal5.kp
        have hz5 := hk5.size_le
        repeat refine zz ?_
        refine o_appendF (R := intR) (M := _) (gi := []) rfl rfl rfl rfl rfl (by decide) ho5 (Blk.src (xs := [(gi L (i : Int)).id]) hal5.blk (Rows.ints _ _)) rfl (Fresh.nil _ _) (fun b hb => by simp at hb) (fun b hb => (ho5.lt hb).2) (fun b hb => by simp at hb) (by simp only [List.length_append, List.length_cons, List.length_nil]; omega) (by simp only [List.length_append, List.length_cons, List.length_nil]; omega) (by omega) ?_
        intro vN wN hoN hbN hgN
        repeat refine zz ?_
        refine ⟨(i + 1, vN), ⟨rfl, rfl, rfl, rfl, trivial⟩, ⟨hk5.grown hgN (fun b hb => (ho5.lt hb).1), by dsimp only; omega, by dsimp only; omega, ?_⟩, by dsimp only; omega⟩
        dsimp only
        rw [hstep]; exact hoN
      · simp at hc
        obtain rfl : b = i := by omega
        repeat refine zz ?_
        obtain ⟨fs, hs, hf⟩ := hoa.sl (by decide)
        have hone := divP_one (L := L) (e := e) (n := M) (M := (L.take b).drop a) (by omega)
        refine ret2 rfl rfl rfl ⟨hka, _, fs, by rw [hone], by rw [hone]; exact hs, hf⟩
    simp at hq
    have hlen := seg_len (L := L) (a := a) hbl
    have hmore := divP_more (L := L) (e := e) (n := N) (M := (L.take b).drop a) (by omega)
    rw [hlen] at hmore
    generalize hh : (b - a) / 2 = h at hmore
    rw [seg_take hbl (by omega), seg_drop] at hmore
    repeat refine zz ?_
    refine WL_pure rfl rfl (o_quo rfl rfl (by decide)) ?_
    have hq2 := half_eq (a + b) (by omega)
    rw [Int.natCast_add] at hq2
    rw [hq2, show (a + b) / 2 = a + h by omega]
    repeat refine zz ?_
    refine o_call rfl rfl rfl (ih hL he (a := a) (b := a + h) (by omega) (by omega) (by omega)) ?_
    rintro _ w1 ⟨hk1, x1, f1, rfl, hs1, hf1⟩
    replace hL := hL.keep hk1
    replace he := he.keep hk1
    repeat refine zz ?_
    refine o_call rfl rfl rfl (ih hL he (a := a + h) (b := b) (by omega) (by omega) (by omega)) ?_
    rintro _ w2 ⟨hk2, x2, f2, rfl, hs2, hf2⟩
    replace hL := hL.keep hk2
    replace he := he.keep hk2
    replace hk1 := hk1.keep hk2
    replace hs1 := hs1.keep hk2
    have l1 := divP_len (L := L) (e := e) N ((L.take (a + h)).drop a)
    have l2 := divP_len (L := L) (e := e) N ((L.take b).drop (a + h))
    rw [seg_len (by omega)] at l1 l2
    have kn1 := divP_known (L := L) (e := e) (n := N) (M := (L.take (a + h)).drop a) (fun x hx => seg_mem hx)
    have kn2 := divP_known (L := L) (e := e) (n := N) (M := (L.take b).drop (a + h)) (fun x hx => seg_mem hx)
    have t1 := divP_small (L := L) (e := e) (n := N) (M := (L.take (a + h)).drop a) (by rw [seg_len (by omega)]; omega)
    have t2 := divP_small (L := L) (e := e) (n := N) (M := (L.take b).drop (a + h)) (by rw [seg_len (by omega)]; omega)
    generalize divP L e N ((L.take (a + h)).drop a) = d1 at *
    generalize divP L e N ((L.take b).drop (a + h)) = d2 at *
    obtain ⟨A1, n1, c1, rfl, hn1⟩ := hs1.split
    obtain ⟨A2, n2, c2, rfl, hn2⟩ := hs2.split
    have hmu := mul_le2 (a := (n1 : Int)) (b := 16) (c := (n2 : Int)) (d := 16) (by omega) (by omega) (by omega) (by omega)
    repeat refine zz ?_
    refine o_call rfl rfl rfl (l8Merge_ok hL he hs1 hs2 hex hit (by omega) (by omega) kn1 kn2) ?_
    rintro x3 w3 ⟨hk3, f3, hs3, hf3⟩
    repeat refine zz ?_
    refine WL_pure rfl rfl (o_mul rfl rfl (by omega)) ?_
    repeat refine zz ?_
    refine ret2 rfl rfl rfl ⟨hk1.keep hk3, x3, f3, by rw [hmore, hn1, hn2], by rw [hmore]; exact hs3, hf3.mono hk1.size_le⟩

theorem spec_DivideBest_ok {w : World} {v u : Value} {L : List Itm} {e : List Nod} {fp gp : List Nat} (hL : Sl itemR w v L fp) (he : Sl nodeR w u e gp) (hn : e.length + totN e ≤ 1048576) :
    Run Tryz.prog 38 [v, u] w (fun r w' => Keep w w' ∧ ∃ x f, r = .tuple #[x, .int .i64 (divide L e).2] ∧ Sl intR w' x (divide L e).1 f ∧ Fresh w.heap.size w' f) := by
  obtain ⟨A, n, c, rfl, hnx⟩ := hL.split
  refine Run_intro Tryz.func38 (by unfold CallOk; kernel_rfl) rfl Tryz.ntmps38 (Nat.le_of_ble_eq_true rfl) ?_
  simp only [penv, Nat.reduceAdd, Nat.zero_add]
  repeat refine zz ?_
  refine o_call rfl rfl rfl (l7Fine_ok hL he hn) ?_
  rintro _ w1 ⟨rfl, hk1⟩
  replace hL := hL.keep hk1
  replace he := he.keep hk1
  repeat refine zz ?_
  refine W_cond rfl (fun h1 => ?_) (fun h1 => ?_)
  · repeat refine zz ?_
    refine o_buildSlice rfl rfl rfl rfl rfl (by intro p hp; cases hp) (by omega) ?_
    intro bO wO halO
    have hkO := halO.kp
    have ho0 : OwnF intR wO w.heap.size 3 (.slice (some ⟨bO, 0, none⟩) 0 0) [] [] := OwnF.made halO.blk (by have := halO.b_eq; have := hk1.size_le; omega)
    obtain ⟨fp, hs, hf⟩ := ho0.sl (by decide)
    repeat refine zz ?_
    simp at h1
    have hd : divide L e = ([], 0) := by rw [divide, if_neg (by simp [h1])]
    exact ret2 rfl rfl rfl ⟨hk1.keep hkO, _, fp, by rw [hd], by rw [hd]; exact hs, hf⟩
  simp at h1
  obtain ⟨hit, hln, hex⟩ := fine_ok h1
  repeat refine zz ?_
  refine o_call rfl rfl rfl (l8Divide_ok hex hit hln n hL he (a := 0) (b := n) (by omega) (by omega) (by omega)) ?_
  rintro _ w2 ⟨hk2, x, f, rfl, hs, hf⟩
  have hd : divide L e = divP L e n ((L.take n).drop 0) := by rw [divide, if_pos h1, hnx]; simp
  repeat refine zz ?_
  refine ret2 rfl rfl rfl ⟨hk1.keep hk2, x, f, by rw [hd], by rw [hd]; exact hs, hf.mono hk1.size_le⟩
end Go.E

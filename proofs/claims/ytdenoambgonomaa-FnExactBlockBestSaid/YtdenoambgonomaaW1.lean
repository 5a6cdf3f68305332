/-
  Contracts on pairs of values: valid pairs, what follows from pairs. Conditions: as stated.
-/
import Derived.Test.YtdenoambgonomaaBs
import Derived.Test.YtdenoambgonomaaPo
set_option linter.unusedVariables false
set_option linter.unusedSimpArgs false
namespace Go.E
open Go Go.RowKit Go.Proofs
/-- a table of ten by ten truth values -/
structure Grid (cs : List Value) (f : Nat → Nat → Bool) : Prop where
  len : cs.length = 100
  val : ∀ i j, i < 10 → j < 10 → cs[i * 10 + j]? = some (.bool (f i j))
theorem Grid.one {cs : List Value} {f : Nat → Nat → Bool} (h : Grid cs f) : ∀ v, v ∈ cs → v.oneCell' = true := by
  intro v hv
  obtain ⟨n, hn, rfl⟩ := List.getElem_of_mem hv
  have hl := h.len
  have := h.val (n / 10) (n % 10) (by omega) (by omega)
  rw [show n / 10 * 10 + n % 10 = n by omega, List.getElem?_eq_getElem hn] at this
  simp only [Option.some.injEq] at this
  rw [this]; rfl
theorem Grid.set {cs : List Value} {f g : Nat → Nat → Bool} (h : Grid cs f) {i j : Nat} {b : Bool} (hi : i < 10) (hj : j < 10) (hg : ∀ i' j', i' < 10 → j' < 10 → g i' j' = if i' = i ∧ j' = j then b else f i' j') : Grid (cs.set (i * 10 + j) (.bool b)) g := by
  have hl := h.len
  refine ⟨by simp [hl], fun i' j' hi' hj' => ?_⟩
  rw [List.getElem?_set, hg i' j' hi' hj']
  by_cases he : i * 10 + j = i' * 10 + j'
  · have h1 : i' = i ∧ j' = j := by omega
    rw [if_pos he, if_pos h1, if_pos (by omega)]
  · have h1 : ¬ (i' = i ∧ j' = j) := fun ⟨a, b⟩ => he (by rw [a, b])
    rw [if_neg he, if_neg h1]
    exact h.val i' j' hi' hj'
theorem Grid.congr {cs : List Value} {f g : Nat → Nat → Bool} (h : Grid cs f) (hg : ∀ i j, i < 10 → j < 10 → g i j = f i j) : Grid cs g :=
  ⟨h.len, fun i j hi hj => by rw [hg i j hi hj]; exact h.val i j hi hj⟩
theorem ea2_blk (b i j : Nat) : ea (ea (some ⟨b, 0, none⟩) 10 (i : Int)) 1 (j : Int) = some ⟨b, i * 10 + j, none⟩ := by simp [ea, add_mk]
theorem Grid.cell {w : World} {b : Nat} {t : TypeId} {cs : List Value} {f : Nat → Nat → Bool} (h : Grid cs f) (hb : Blk w b t cs) {i j : Int} (hi : 0 ≤ i ∧ i ≤ 9) (hj : 0 ≤ j ∧ j ≤ 9) : Cell w (ea (ea (some ⟨b, 0, none⟩) 10 i) 1 j) (.bool (f i.toNat j.toNat)) := by
  obtain ⟨i, rfl⟩ := Int.eq_ofNat_of_zero_le hi.1
  obtain ⟨j, rfl⟩ := Int.eq_ofNat_of_zero_le hj.1
  rw [ea2_blk]
  exact hb.cell (h.val i j (by omega) (by omega))
theorem gi_append_left {α : Type} [Inhabited α] {xs ys : List α} {i : Nat} (h : i < xs.length) : gi (xs ++ ys) (i : Int) = gi xs (i : Int) := by
  rw [gi_lt h, gi_lt (by rw [List.length_append]; omega), List.getElem_append_left h]
theorem gi_in {α : Type} [Inhabited α] {xs : List α} {i : Nat} (h : i < xs.length) : gi xs (i : Int) ∈ xs := by rw [gi_lt h]; exact List.getElem_mem h
theorem nodup_le : ∀ {xs ys : List Int}, xs.Nodup → (∀ x, x ∈ xs → x ∈ ys) → xs.length ≤ ys.length
  | [], ys, _, _ => Nat.zero_le _
  | x :: r, ys, hn, hs => by
    have hx : x ∈ ys := hs x (List.mem_cons_self ..)
    have hn' := List.nodup_cons.1 hn
    have := nodup_le (xs := r) (ys := ys.erase x) hn'.2 fun y hy => by
      have hne : y ≠ x := fun e => hn'.1 (e ▸ hy)
      exact (List.mem_erase_of_ne hne).2 (hs y (List.mem_cons_of_mem _ hy))
    rw [List.length_erase_of_mem hx] at this
    have : 0 < ys.length := List.length_pos_of_mem hx
    simp only [List.length_cons]; omega
attribute [local irreducible] W WL WD WE thenE inE retQ PureOp Keep Cell Cells Blk Sl Rows Own Src Fresh
attribute [local irreducible] reachB

theorem l3Valid_ok {w : World} {v : Value} {xs : List (Int × Int)} {fp : List Nat} (hx : Sl pairR w v xs fp) : Run Try.prog 174 [v] w (fun r w' => r = .bool (prOk xs && decide (xs.length ≤ 8)) ∧ w = w') := by
  have hn := hx.le
  obtain ⟨A, n, c, rfl, hnx⟩ := hx.split
  refine Run_intro Try.func174 (by unfold CallOk; kernel_rfl) rfl Try.ntmps174 (Nat.le_of_ble_eq_true rfl) ?_
  simp only [penv, Nat.reduceAdd, Nat.zero_add]
  repeat (first|refine z_1 ?_|refine z_2 ?_|refine s_o ?_|refine z_3 ?_|refine z_4 ?_|refine z_5 ?_|refine z_6 ?_|refine z_7 ?_|refine z_8 ?_|refine z_9 ?_|refine z_a ?_|refine z_b ?_|refine z_d ?_|refine z_e ?_|refine z_f ?_|refine z_g ?_|refine z_h ?_|refine z_i ?_|refine z_j ?_|refine s_a ?_|refine s_s ?_|refine s_n ?_|refine s_i ?_|refine s_f ?_|refine s_b ?_|refine s_d ?_|refine s_l1 ?_|refine s_l2 ?_|refine s_l3 ?_|refine s_l4 ?_|refine s_l5 ?_|refine s_l6 ?_|refine s_l7 ?_|refine s_l8 ?_|refine s_l9 ?_|refine s_g ?_|refine s_q ?_|refine s_e ?_|refine s_j ?_)
  refine W_loop (S := Nat) (fun k => [(0, .slice A n c), (3, .int .i64 (k : Int))]) (fun k w' => w = w' ∧ k ≤ n ∧ ∀ i, i < k → (fun i : Nat => inR (gi xs (i : Int)).1 0 9 && inR (gi xs (i : Int)).2 0 9) i = true) (fun k => n - k) 0 ⟨rfl, rfl, trivial⟩ ⟨rfl, Nat.zero_le _, fun i hi => absurd hi (by omega)⟩ ?_
  rintro k _ ⟨rfl, hk, hall⟩
  repeat (first|refine z_1 ?_|refine z_2 ?_|refine s_o ?_|refine z_3 ?_|refine z_4 ?_|refine z_5 ?_|refine z_6 ?_|refine z_7 ?_|refine z_8 ?_|refine z_9 ?_|refine z_a ?_|refine z_b ?_|refine z_d ?_|refine z_e ?_|refine z_f ?_|refine z_g ?_|refine z_h ?_|refine z_i ?_|refine z_j ?_|refine s_a ?_|refine s_s ?_|refine s_n ?_|refine s_i ?_|refine s_f ?_|refine s_b ?_|refine s_d ?_|refine s_l1 ?_|refine s_l2 ?_|refine s_l3 ?_|refine s_l4 ?_|refine s_l5 ?_|refine s_l6 ?_|refine s_l7 ?_|refine s_l8 ?_|refine s_l9 ?_|refine s_g ?_|refine s_q ?_|refine s_e ?_|refine s_j ?_)
  refine W_cond rfl (fun hc => ?_) (fun hc => ?_)
  · have hkn : k < n := by simp at hc; omega
    obtain ⟨hA, hck⟩ := pair_get hx (i := (k : Int)) (by omega) (by omega)
    repeat (first|refine z_1 ?_|refine z_2 ?_|refine s_o ?_|refine z_3 ?_|refine z_4 ?_|refine z_5 ?_|refine z_6 ?_|refine z_7 ?_|refine z_8 ?_|refine z_9 ?_|refine z_a ?_|refine z_b ?_|refine z_d ?_|refine z_e ?_|refine z_f ?_|refine z_g ?_|refine z_h ?_|refine z_i ?_|refine z_j ?_|refine s_a ?_|refine s_s ?_|refine s_n ?_|refine s_i ?_|refine s_f ?_|refine s_b ?_|refine s_d ?_|refine s_l1 ?_|refine s_l2 ?_|refine s_l3 ?_|refine s_l4 ?_|refine s_l5 ?_|refine s_l6 ?_|refine s_l7 ?_|refine s_l8 ?_|refine s_l9 ?_|refine s_g ?_|refine s_q ?_|refine s_e ?_|refine s_j ?_)
    refine o_call rfl rfl rfl (l1In_ok _ _ _ _) ?_
    rintro _ _ ⟨rfl, rfl⟩
    repeat (first|refine z_1 ?_|refine z_2 ?_|refine s_o ?_|refine z_3 ?_|refine z_4 ?_|refine z_5 ?_|refine z_6 ?_|refine z_7 ?_|refine z_8 ?_|refine z_9 ?_|refine z_a ?_|refine z_b ?_|refine z_d ?_|refine z_e ?_|refine z_f ?_|refine z_g ?_|refine z_h ?_|refine z_i ?_|refine z_j ?_|refine s_a ?_|refine s_s ?_|refine s_n ?_|refine s_i ?_|refine s_f ?_|refine s_b ?_|refine s_d ?_|refine s_l1 ?_|refine s_l2 ?_|refine s_l3 ?_|refine s_l4 ?_|refine s_l5 ?_|refine s_l6 ?_|refine s_l7 ?_|refine s_l8 ?_|refine s_l9 ?_|refine s_g ?_|refine s_q ?_|refine s_e ?_|refine s_j ?_)
    refine WL_part rfl rfl (fun h => ?_) (fun h => ?_)
    · simp at h
      repeat (first|refine z_1 ?_|refine z_2 ?_|refine s_o ?_|refine z_3 ?_|refine z_4 ?_|refine z_5 ?_|refine z_6 ?_|refine z_7 ?_|refine z_8 ?_|refine z_9 ?_|refine z_a ?_|refine z_b ?_|refine z_d ?_|refine z_e ?_|refine z_f ?_|refine z_g ?_|refine z_h ?_|refine z_i ?_|refine z_j ?_|refine s_a ?_|refine s_s ?_|refine s_n ?_|refine s_i ?_|refine s_f ?_|refine s_b ?_|refine s_d ?_|refine s_l1 ?_|refine s_l2 ?_|refine s_l3 ?_|refine s_l4 ?_|refine s_l5 ?_|refine s_l6 ?_|refine s_l7 ?_|refine s_l8 ?_|refine s_l9 ?_|refine s_g ?_|refine s_q ?_|refine s_e ?_|refine s_j ?_)
      exact ret1 rfl rfl ⟨by rw [prOk, allB_false (k := k) (by omega) (by simp [h]), Bool.false_and], rfl⟩
    · simp at h
      repeat (first|refine z_1 ?_|refine z_2 ?_|refine s_o ?_|refine z_3 ?_|refine z_4 ?_|refine z_5 ?_|refine z_6 ?_|refine z_7 ?_|refine z_8 ?_|refine z_9 ?_|refine z_a ?_|refine z_b ?_|refine z_d ?_|refine z_e ?_|refine z_f ?_|refine z_g ?_|refine z_h ?_|refine z_i ?_|refine z_j ?_|refine s_a ?_|refine s_s ?_|refine s_n ?_|refine s_i ?_|refine s_f ?_|refine s_b ?_|refine s_d ?_|refine s_l1 ?_|refine s_l2 ?_|refine s_l3 ?_|refine s_l4 ?_|refine s_l5 ?_|refine s_l6 ?_|refine s_l7 ?_|refine s_l8 ?_|refine s_l9 ?_|refine s_g ?_|refine s_q ?_|refine s_e ?_|refine s_j ?_)
      refine o_call rfl rfl rfl (l1In_ok _ _ _ _) ?_
      rintro _ _ ⟨rfl, rfl⟩
      repeat (first|refine z_1 ?_|refine z_2 ?_|refine s_o ?_|refine z_3 ?_|refine z_4 ?_|refine z_5 ?_|refine z_6 ?_|refine z_7 ?_|refine z_8 ?_|refine z_9 ?_|refine z_a ?_|refine z_b ?_|refine z_d ?_|refine z_e ?_|refine z_f ?_|refine z_g ?_|refine z_h ?_|refine z_i ?_|refine z_j ?_|refine s_a ?_|refine s_s ?_|refine s_n ?_|refine s_i ?_|refine s_f ?_|refine s_b ?_|refine s_d ?_|refine s_l1 ?_|refine s_l2 ?_|refine s_l3 ?_|refine s_l4 ?_|refine s_l5 ?_|refine s_l6 ?_|refine s_l7 ?_|refine s_l8 ?_|refine s_l9 ?_|refine s_g ?_|refine s_q ?_|refine s_e ?_|refine s_j ?_)
      refine W_cond rfl (fun h2 => ?_) (fun h2 => ?_)
      · simp at h2
        repeat (first|refine z_1 ?_|refine z_2 ?_|refine s_o ?_|refine z_3 ?_|refine z_4 ?_|refine z_5 ?_|refine z_6 ?_|refine z_7 ?_|refine z_8 ?_|refine z_9 ?_|refine z_a ?_|refine z_b ?_|refine z_d ?_|refine z_e ?_|refine z_f ?_|refine z_g ?_|refine z_h ?_|refine z_i ?_|refine z_j ?_|refine s_a ?_|refine s_s ?_|refine s_n ?_|refine s_i ?_|refine s_f ?_|refine s_b ?_|refine s_d ?_|refine s_l1 ?_|refine s_l2 ?_|refine s_l3 ?_|refine s_l4 ?_|refine s_l5 ?_|refine s_l6 ?_|refine s_l7 ?_|refine s_l8 ?_|refine s_l9 ?_|refine s_g ?_|refine s_q ?_|refine s_e ?_|refine s_j ?_)
        exact ret1 rfl rfl ⟨by rw [prOk, allB_false (k := k) (by omega) (by simp [h2]), Bool.false_and], rfl⟩
      · simp at h2
        repeat (first|refine z_1 ?_|refine z_2 ?_|refine s_o ?_|refine z_3 ?_|refine z_4 ?_|refine z_5 ?_|refine z_6 ?_|refine z_7 ?_|refine z_8 ?_|refine z_9 ?_|refine z_a ?_|refine z_b ?_|refine z_d ?_|refine z_e ?_|refine z_f ?_|refine z_g ?_|refine z_h ?_|refine z_i ?_|refine z_j ?_|refine s_a ?_|refine s_s ?_|refine s_n ?_|refine s_i ?_|refine s_f ?_|refine s_b ?_|refine s_d ?_|refine s_l1 ?_|refine s_l2 ?_|refine s_l3 ?_|refine s_l4 ?_|refine s_l5 ?_|refine s_l6 ?_|refine s_l7 ?_|refine s_l8 ?_|refine s_l9 ?_|refine s_g ?_|refine s_q ?_|refine s_e ?_|refine s_j ?_)
        exact ⟨k + 1, ⟨rfl, rfl, trivial⟩, ⟨rfl, by omega, all_step hall (by simp [h, h2])⟩, by omega⟩
  · simp at hc
    obtain rfl : k = n := by omega
    repeat (first|refine z_1 ?_|refine z_2 ?_|refine s_o ?_|refine z_3 ?_|refine z_4 ?_|refine z_5 ?_|refine z_6 ?_|refine z_7 ?_|refine z_8 ?_|refine z_9 ?_|refine z_a ?_|refine z_b ?_|refine z_d ?_|refine z_e ?_|refine z_f ?_|refine z_g ?_|refine z_h ?_|refine z_i ?_|refine z_j ?_|refine s_a ?_|refine s_s ?_|refine s_n ?_|refine s_i ?_|refine s_f ?_|refine s_b ?_|refine s_d ?_|refine s_l1 ?_|refine s_l2 ?_|refine s_l3 ?_|refine s_l4 ?_|refine s_l5 ?_|refine s_l6 ?_|refine s_l7 ?_|refine s_l8 ?_|refine s_l9 ?_|refine s_g ?_|refine s_q ?_|refine s_e ?_|refine s_j ?_)
    exact ret1 rfl rfl ⟨by rw [prOk, allB_true (by rwa [← hnx]), Bool.true_and, ← hnx]; congr 1; rw [decide_eq_decide]; omega, rfl⟩

set_option maxHeartbeats 1000000 in
theorem l3Reach_ok {w : World} {v : Value} {l : List (Int × Int)} {fp : List Nat} {a b : Int} (hx : Sl pairR w v l fp) (hp : prOk l = true) (hn : l.length ≤ 1048576) :
    Run Try.prog 165 [v, .int .i64 a, .int .i64 b] w (fun r w' => r = .bool (reachB l a b) ∧ Keep w w') := by
  obtain ⟨A, n, c, rfl, hnx⟩ := hx.split
  have hres : ∀ t : Bool, (t = true ↔ Rch l a b) → reachB l a b = t := fun t ht => by
    rw [Bool.eq_iff_iff, reach_iff hp, ht]
  refine Run_intro Try.func165 (by unfold CallOk; kernel_rfl) rfl Try.ntmps165 (Nat.le_of_ble_eq_true rfl) ?_
  simp only [penv, Nat.reduceAdd, Nat.zero_add]
  repeat (first|refine z_1 ?_|refine z_2 ?_|refine s_o ?_|refine z_3 ?_|refine z_4 ?_|refine z_5 ?_|refine z_6 ?_|refine z_7 ?_|refine z_8 ?_|refine z_9 ?_|refine z_a ?_|refine z_b ?_|refine z_d ?_|refine z_e ?_|refine z_f ?_|refine z_g ?_|refine z_h ?_|refine z_i ?_|refine z_j ?_|refine s_a ?_|refine s_s ?_|refine s_n ?_|refine s_i ?_|refine s_f ?_|refine s_b ?_|refine s_d ?_|refine s_l1 ?_|refine s_l2 ?_|refine s_l3 ?_|refine s_l4 ?_|refine s_l5 ?_|refine s_l6 ?_|refine s_l7 ?_|refine s_l8 ?_|refine s_l9 ?_|refine s_g ?_|refine s_q ?_|refine s_e ?_|refine s_j ?_)
  refine o_buildSlice rfl rfl rfl rfl rfl (by simp [Value.cells]) (by omega) ?_
  intro b0 w1 hal
  have hk1 := hal.kp
  have ho1 : OwnF intR w1 w.heap.size 3 (.slice (some ⟨b0, 0, none⟩) 1 1) [a] [] := by
    refine ⟨Own.full (xs := [a]) hal.blk (Rows.ints _ _) (by simp only [List.length_cons, List.length_nil, maxLen]; omega) (by have := hal.b_eq; omega), Fresh.nil _ _, fun b hb => by simp⟩
  repeat (first|refine z_1 ?_|refine z_2 ?_|refine s_o ?_|refine z_3 ?_|refine z_4 ?_|refine z_5 ?_|refine z_6 ?_|refine z_7 ?_|refine z_8 ?_|refine z_9 ?_|refine z_a ?_|refine z_b ?_|refine z_d ?_|refine z_e ?_|refine z_f ?_|refine z_g ?_|refine z_h ?_|refine z_i ?_|refine z_j ?_|refine s_a ?_|refine s_s ?_|refine s_n ?_|refine s_i ?_|refine s_f ?_|refine s_b ?_|refine s_d ?_|refine s_l1 ?_|refine s_l2 ?_|refine s_l3 ?_|refine s_l4 ?_|refine s_l5 ?_|refine s_l6 ?_|refine s_l7 ?_|refine s_l8 ?_|refine s_l9 ?_|refine s_g ?_|refine s_q ?_|refine s_e ?_|refine s_j ?_)
  refine W_loop (S := Nat × Value × List Int) (fun s => [(0, .slice A n c), (1, .int .i64 a), (2, .int .i64 b), (7, s.2.1), (8, .int .i64 (s.1 : Int))]) (fun s w' => Keep w w' ∧ s.1 ≤ s.2.2.length ∧ OwnF intR w' w.heap.size 3 s.2.1 s.2.2 [] ∧ s.2.2.Nodup ∧ (∀ x, x ∈ s.2.2 → x ∈ a :: l.map Prod.snd) ∧ a ∈ s.2.2 ∧ (∀ x, x ∈ s.2.2 → x = a ∨ Rch l a x) ∧ ∀ i, i < s.1 → ∀ q, (gi s.2.2 (i : Int), q) ∈ l → q ∈ s.2.2 ∧ q ≠ b)
    (fun s => n + 2 - s.1) (0, _, [a]) ⟨rfl, rfl, rfl, rfl, rfl, trivial⟩ ⟨hk1, by simp, ho1, by simp, by simp, by simp, by simp, fun i hi => absurd hi (by dsimp only; omega)⟩ ?_
  rintro ⟨i, va, S⟩ wa ⟨hka, hi, hoa, hnd, hsub, haS, hsnd, hcl⟩
  dsimp only at hi hoa hnd hsub haS hsnd hcl ⊢
  have hSl : S.length ≤ n + 1 := by have := nodup_le hnd hsub; simpa [← hnx] using this
  obtain ⟨Ao, no, co, rfl, hno, hnc⟩ := hoa.split
  repeat (first|refine z_1 ?_|refine z_2 ?_|refine s_o ?_|refine z_3 ?_|refine z_4 ?_|refine z_5 ?_|refine z_6 ?_|refine z_7 ?_|refine z_8 ?_|refine z_9 ?_|refine z_a ?_|refine z_b ?_|refine z_d ?_|refine z_e ?_|refine z_f ?_|refine z_g ?_|refine z_h ?_|refine z_i ?_|refine z_j ?_|refine s_a ?_|refine s_s ?_|refine s_n ?_|refine s_i ?_|refine s_f ?_|refine s_b ?_|refine s_d ?_|refine s_l1 ?_|refine s_l2 ?_|refine s_l3 ?_|refine s_l4 ?_|refine s_l5 ?_|refine s_l6 ?_|refine s_l7 ?_|refine s_l8 ?_|refine s_l9 ?_|refine s_g ?_|refine s_q ?_|refine s_e ?_|refine s_j ?_)
  refine W_cond rfl (fun hc => ?_) (fun hc => ?_)
  · have hin : i < no := by simp at hc; omega
    repeat (first|refine z_1 ?_|refine z_2 ?_|refine s_o ?_|refine z_3 ?_|refine z_4 ?_|refine z_5 ?_|refine z_6 ?_|refine z_7 ?_|refine z_8 ?_|refine z_9 ?_|refine z_a ?_|refine z_b ?_|refine z_d ?_|refine z_e ?_|refine z_f ?_|refine z_g ?_|refine z_h ?_|refine z_i ?_|refine z_j ?_|refine s_a ?_|refine s_s ?_|refine s_n ?_|refine s_i ?_|refine s_f ?_|refine s_b ?_|refine s_d ?_|refine s_l1 ?_|refine s_l2 ?_|refine s_l3 ?_|refine s_l4 ?_|refine s_l5 ?_|refine s_l6 ?_|refine s_l7 ?_|refine s_l8 ?_|refine s_l9 ?_|refine s_g ?_|refine s_q ?_|refine s_e ?_|refine s_j ?_)
    refine W_loop (S := Nat × Value × List Int) (fun s => [(0, .slice A n c), (1, .int .i64 a), (2, .int .i64 b), (7, s.2.1), (8, .int .i64 (i : Int)), (9, .int .i64 (s.1 : Int))]) (fun s w' => Keep w w' ∧ s.1 ≤ n ∧ i < s.2.2.length ∧ OwnF intR w' w.heap.size 3 s.2.1 s.2.2 [] ∧ s.2.2.Nodup ∧ (∀ x, x ∈ s.2.2 → x ∈ a :: l.map Prod.snd) ∧ a ∈ s.2.2 ∧ (∀ x, x ∈ s.2.2 → x = a ∨ Rch l a x) ∧ (∀ i', i' < i → ∀ q, (gi s.2.2 (i' : Int), q) ∈ l → q ∈ s.2.2 ∧ q ≠ b) ∧ ∀ j, j < s.1 → (gi l (j : Int)).1 = gi s.2.2 (i : Int) → (gi l (j : Int)).2 ∈ s.2.2 ∧ (gi l (j : Int)).2 ≠ b)
      (fun s => n - s.1) (0, _, S) ⟨rfl, rfl, rfl, rfl, rfl, rfl, trivial⟩ ⟨hka, by omega, by dsimp only; omega, hoa, hnd, hsub, haS, hsnd, hcl, fun j hj => absurd hj (by dsimp only; omega)⟩ ?_
    clear hoa hnd hsub haS hsnd hcl hka hSl hno hnc hin hi
    rintro ⟨j, va, S⟩ wb ⟨hkb, hj, hiS, hob, hnd, hsub, haS, hsnd, hcl, hjn⟩
    dsimp only at hj hiS hob hnd hsub haS hsnd hcl hjn ⊢
    have hSl : S.length ≤ n + 1 := by have := nodup_le hnd hsub; simpa [← hnx] using this
    obtain ⟨Ao, no, co, rfl, hno, hnc⟩ := hob.split
    have hxb := hx.keep hkb
    repeat (first|refine z_1 ?_|refine z_2 ?_|refine s_o ?_|refine z_3 ?_|refine z_4 ?_|refine z_5 ?_|refine z_6 ?_|refine z_7 ?_|refine z_8 ?_|refine z_9 ?_|refine z_a ?_|refine z_b ?_|refine z_d ?_|refine z_e ?_|refine z_f ?_|refine z_g ?_|refine z_h ?_|refine z_i ?_|refine z_j ?_|refine s_a ?_|refine s_s ?_|refine s_n ?_|refine s_i ?_|refine s_f ?_|refine s_b ?_|refine s_d ?_|refine s_l1 ?_|refine s_l2 ?_|refine s_l3 ?_|refine s_l4 ?_|refine s_l5 ?_|refine s_l6 ?_|refine s_l7 ?_|refine s_l8 ?_|refine s_l9 ?_|refine s_g ?_|refine s_q ?_|refine s_e ?_|refine s_j ?_)
    refine W_cond rfl (fun hcj => ?_) (fun hcj => ?_)
    · have hjl : j < n := by simp at hcj; omega
      obtain ⟨hA, hck⟩ := pair_get hxb (i := (j : Int)) (by omega) (by omega)
      obtain ⟨fo, hso, hfo⟩ := hob.sl (by decide)
      obtain ⟨hAo, hcs⟩ := hso.getI (i := (i : Int)) (by omega) (by omega)
      have hmem : ((gi l (j : Int)).1, (gi l (j : Int)).2) ∈ l := by have := gi_in (xs := l) (i := j) (by omega); exact this
      repeat (first|refine z_1 ?_|refine z_2 ?_|refine s_o ?_|refine z_3 ?_|refine z_4 ?_|refine z_5 ?_|refine z_6 ?_|refine z_7 ?_|refine z_8 ?_|refine z_9 ?_|refine z_a ?_|refine z_b ?_|refine z_d ?_|refine z_e ?_|refine z_f ?_|refine z_g ?_|refine z_h ?_|refine z_i ?_|refine z_j ?_|refine s_a ?_|refine s_s ?_|refine s_n ?_|refine s_i ?_|refine s_f ?_|refine s_b ?_|refine s_d ?_|refine s_l1 ?_|refine s_l2 ?_|refine s_l3 ?_|refine s_l4 ?_|refine s_l5 ?_|refine s_l6 ?_|refine s_l7 ?_|refine s_l8 ?_|refine s_l9 ?_|refine s_g ?_|refine s_q ?_|refine s_e ?_|refine s_j ?_)
      refine W_quiet (Keep wb) (by kernel_rfl) (by kernel_rfl) (Keep.drew _) ?_
      repeat (first|refine q_o ?_|refine z_k ?_|refine q_a ?_|refine q_s ?_|refine q_n ?_|refine q_i ?_|refine q_f ?_|refine q_b ?_|refine q_d ?_|refine q_l1 ?_|refine q_l2 ?_|refine q_l3 ?_|refine q_l4 ?_|refine q_l5 ?_|refine q_l6 ?_|refine q_l7 ?_|refine q_l8 ?_|refine q_l9 ?_|refine q_g ?_|refine q_q ?_|refine q_e ?_|refine q_j ?_|refine z_l ?_)
      intro wd hkd 
      replace hkb := hkb.keep hkd
      replace hob := hob.keep hkd
      replace hck := hck.keep hkd
      replace hso := hso.keep hkd
      repeat (first|refine z_1 ?_|refine z_2 ?_|refine s_o ?_|refine z_3 ?_|refine z_4 ?_|refine z_5 ?_|refine z_6 ?_|refine z_7 ?_|refine z_8 ?_|refine z_9 ?_|refine z_a ?_|refine z_b ?_|refine z_d ?_|refine z_e ?_|refine z_f ?_|refine z_g ?_|refine z_h ?_|refine z_i ?_|refine z_j ?_|refine s_a ?_|refine s_s ?_|refine s_n ?_|refine s_i ?_|refine s_f ?_|refine s_b ?_|refine s_d ?_|refine s_l1 ?_|refine s_l2 ?_|refine s_l3 ?_|refine s_l4 ?_|refine s_l5 ?_|refine s_l6 ?_|refine s_l7 ?_|refine s_l8 ?_|refine s_l9 ?_|refine s_g ?_|refine s_q ?_|refine s_e ?_|refine s_j ?_)
      refine W_cond rfl (fun hne => ?_) (fun hne => ?_)
      · simp at hne
        repeat (first|refine z_1 ?_|refine z_2 ?_|refine s_o ?_|refine z_3 ?_|refine z_4 ?_|refine z_5 ?_|refine z_6 ?_|refine z_7 ?_|refine z_8 ?_|refine z_9 ?_|refine z_a ?_|refine z_b ?_|refine z_d ?_|refine z_e ?_|refine z_f ?_|refine z_g ?_|refine z_h ?_|refine z_i ?_|refine z_j ?_|refine s_a ?_|refine s_s ?_|refine s_n ?_|refine s_i ?_|refine s_f ?_|refine s_b ?_|refine s_d ?_|refine s_l1 ?_|refine s_l2 ?_|refine s_l3 ?_|refine s_l4 ?_|refine s_l5 ?_|refine s_l6 ?_|refine s_l7 ?_|refine s_l8 ?_|refine s_l9 ?_|refine s_g ?_|refine s_q ?_|refine s_e ?_|refine s_j ?_)
        exact ⟨(j + 1, _, S), ⟨rfl, rfl, rfl, rfl, rfl, rfl, trivial⟩, ⟨hkb, by dsimp only; omega, hiS, hob, hnd, hsub, haS, hsnd, hcl, fun j' hj' he => by
          rcases Nat.lt_or_ge j' j with h1 | h1
          · exact hjn j' h1 he
          · have : j' = j := by dsimp only at hj'; omega
            subst this; exact absurd he hne⟩, by dsimp only; omega⟩
      · simp at hne
        have hrS : Rch l a (gi l (j : Int)).2 := by
          rw [hne] at hmem
          rcases hsnd _ (gi_in (xs := S) (i := i) hiS) with h1 | h1
          · rw [h1] at hmem; exact .one hmem
          · exact h1.trans (.one hmem)
        repeat (first|refine z_1 ?_|refine z_2 ?_|refine s_o ?_|refine z_3 ?_|refine z_4 ?_|refine z_5 ?_|refine z_6 ?_|refine z_7 ?_|refine z_8 ?_|refine z_9 ?_|refine z_a ?_|refine z_b ?_|refine z_d ?_|refine z_e ?_|refine z_f ?_|refine z_g ?_|refine z_h ?_|refine z_i ?_|refine z_j ?_|refine s_a ?_|refine s_s ?_|refine s_n ?_|refine s_i ?_|refine s_f ?_|refine s_b ?_|refine s_d ?_|refine s_l1 ?_|refine s_l2 ?_|refine s_l3 ?_|refine s_l4 ?_|refine s_l5 ?_|refine s_l6 ?_|refine s_l7 ?_|refine s_l8 ?_|refine s_l9 ?_|refine s_g ?_|refine s_q ?_|refine s_e ?_|refine s_j ?_)
        refine W_cond rfl (fun hqb => ?_) (fun hqb => ?_)
        · simp at hqb
          repeat (first|refine z_1 ?_|refine z_2 ?_|refine s_o ?_|refine z_3 ?_|refine z_4 ?_|refine z_5 ?_|refine z_6 ?_|refine z_7 ?_|refine z_8 ?_|refine z_9 ?_|refine z_a ?_|refine z_b ?_|refine z_d ?_|refine z_e ?_|refine z_f ?_|refine z_g ?_|refine z_h ?_|refine z_i ?_|refine z_j ?_|refine s_a ?_|refine s_s ?_|refine s_n ?_|refine s_i ?_|refine s_f ?_|refine s_b ?_|refine s_d ?_|refine s_l1 ?_|refine s_l2 ?_|refine s_l3 ?_|refine s_l4 ?_|refine s_l5 ?_|refine s_l6 ?_|refine s_l7 ?_|refine s_l8 ?_|refine s_l9 ?_|refine s_g ?_|refine s_q ?_|refine s_e ?_|refine s_j ?_)
          exact ret1 rfl rfl ⟨by rw [hres true (by simp only [true_iff]; rw [← hqb]; exact hrS)], hkb⟩
        · simp at hqb
          repeat (first|refine z_1 ?_|refine z_2 ?_|refine s_o ?_|refine z_3 ?_|refine z_4 ?_|refine z_5 ?_|refine z_6 ?_|refine z_7 ?_|refine z_8 ?_|refine z_9 ?_|refine z_a ?_|refine z_b ?_|refine z_d ?_|refine z_e ?_|refine z_f ?_|refine z_g ?_|refine z_h ?_|refine z_i ?_|refine z_j ?_|refine s_a ?_|refine s_s ?_|refine s_n ?_|refine s_i ?_|refine s_f ?_|refine s_b ?_|refine s_d ?_|refine s_l1 ?_|refine s_l2 ?_|refine s_l3 ?_|refine s_l4 ?_|refine s_l5 ?_|refine s_l6 ?_|refine s_l7 ?_|refine s_l8 ?_|refine s_l9 ?_|refine s_g ?_|refine s_q ?_|refine s_e ?_|refine s_j ?_)
          refine o_call rfl rfl rfl (l2Has_ok hso) ?_
          rintro _ _ ⟨rfl, rfl⟩
          repeat (first|refine z_1 ?_|refine z_2 ?_|refine s_o ?_|refine z_3 ?_|refine z_4 ?_|refine z_5 ?_|refine z_6 ?_|refine z_7 ?_|refine z_8 ?_|refine z_9 ?_|refine z_a ?_|refine z_b ?_|refine z_d ?_|refine z_e ?_|refine z_f ?_|refine z_g ?_|refine z_h ?_|refine z_i ?_|refine z_j ?_|refine s_a ?_|refine s_s ?_|refine s_n ?_|refine s_i ?_|refine s_f ?_|refine s_b ?_|refine s_d ?_|refine s_l1 ?_|refine s_l2 ?_|refine s_l3 ?_|refine s_l4 ?_|refine s_l5 ?_|refine s_l6 ?_|refine s_l7 ?_|refine s_l8 ?_|refine s_l9 ?_|refine s_g ?_|refine s_q ?_|refine s_e ?_|refine s_j ?_)
          refine W_cond rfl (fun hh => ?_) (fun hh => ?_)
          · simp at hh
            repeat (first|refine z_1 ?_|refine z_2 ?_|refine s_o ?_|refine z_3 ?_|refine z_4 ?_|refine z_5 ?_|refine z_6 ?_|refine z_7 ?_|refine z_8 ?_|refine z_9 ?_|refine z_a ?_|refine z_b ?_|refine z_d ?_|refine z_e ?_|refine z_f ?_|refine z_g ?_|refine z_h ?_|refine z_i ?_|refine z_j ?_|refine s_a ?_|refine s_s ?_|refine s_n ?_|refine s_i ?_|refine s_f ?_|refine s_b ?_|refine s_d ?_|refine s_l1 ?_|refine s_l2 ?_|refine s_l3 ?_|refine s_l4 ?_|refine s_l5 ?_|refine s_l6 ?_|refine s_l7 ?_|refine s_l8 ?_|refine s_l9 ?_|refine s_g ?_|refine s_q ?_|refine s_e ?_|refine s_j ?_)
            refine o_buildSlice rfl rfl rfl rfl rfl (by simp [Value.cells]) (by omega) ?_
            intro b2 w2 hal2
            have hkz := hkb.size_le
            replace hkb := hkb.keep hal2.kp
            replace hob := hob.keep hal2.kp
            repeat (first|refine z_1 ?_|refine z_2 ?_|refine s_o ?_|refine z_3 ?_|refine z_4 ?_|refine z_5 ?_|refine z_6 ?_|refine z_7 ?_|refine z_8 ?_|refine z_9 ?_|refine z_a ?_|refine z_b ?_|refine z_d ?_|refine z_e ?_|refine z_f ?_|refine z_g ?_|refine z_h ?_|refine z_i ?_|refine z_j ?_|refine s_a ?_|refine s_s ?_|refine s_n ?_|refine s_i ?_|refine s_f ?_|refine s_b ?_|refine s_d ?_|refine s_l1 ?_|refine s_l2 ?_|refine s_l3 ?_|refine s_l4 ?_|refine s_l5 ?_|refine s_l6 ?_|refine s_l7 ?_|refine s_l8 ?_|refine s_l9 ?_|refine s_g ?_|refine s_q ?_|refine s_e ?_|refine s_j ?_)
            refine o_appendF (R := intR) (M := _) (gi := []) rfl rfl rfl rfl rfl (by decide) hob (Blk.src (xs := [(gi l (j : Int)).2]) hal2.blk (Rows.ints _ _)) rfl (Fresh.nil _ _) (fun b hb => by simp at hb) (fun b hb => (hob.lt hb).2) (fun b hb => by simp at hb) (by simp only [List.length_cons, List.length_nil]; omega) (by simp only [List.length_cons, List.length_nil]; omega) (hkb.size_le) ?_
            intro v3 w3 ho3 hb3 hg3
            have hk3 : Keep w w3 := hkb.grown hg3 (fun b hb => (hob.lt hb).1)
            have hnS : (gi l (j : Int)).2 ∉ S := fun hm => by rw [hasI_iff.2 hm] at hh; cases hh
            repeat (first|refine z_1 ?_|refine z_2 ?_|refine s_o ?_|refine z_3 ?_|refine z_4 ?_|refine z_5 ?_|refine z_6 ?_|refine z_7 ?_|refine z_8 ?_|refine z_9 ?_|refine z_a ?_|refine z_b ?_|refine z_d ?_|refine z_e ?_|refine z_f ?_|refine z_g ?_|refine z_h ?_|refine z_i ?_|refine z_j ?_|refine s_a ?_|refine s_s ?_|refine s_n ?_|refine s_i ?_|refine s_f ?_|refine s_b ?_|refine s_d ?_|refine s_l1 ?_|refine s_l2 ?_|refine s_l3 ?_|refine s_l4 ?_|refine s_l5 ?_|refine s_l6 ?_|refine s_l7 ?_|refine s_l8 ?_|refine s_l9 ?_|refine s_g ?_|refine s_q ?_|refine s_e ?_|refine s_j ?_)
            refine ⟨(j + 1, v3, S ++ [(gi l (j : Int)).2]), ⟨rfl, rfl, rfl, rfl, rfl, rfl, trivial⟩, ⟨hk3, by dsimp only; omega, by dsimp only; rw [List.length_append]; omega, ho3, ?_, ?_, List.mem_append_left _ haS, ?_, ?_, ?_⟩, by dsimp only; omega⟩
            · exact List.nodup_append.2 ⟨hnd, by simp, fun x hx y hy => by
                have : y = (gi l (j : Int)).2 := by simpa using hy
                subst this; exact fun e => hnS (e ▸ hx)⟩
            · intro x hx
              rcases List.mem_append.1 hx with hx | hx
              · exact hsub x hx
              · have : x = (gi l (j : Int)).2 := by simpa using hx
                subst this
                exact List.mem_cons_of_mem _ (List.mem_map.2 ⟨_, gi_in (xs := l) (by omega), rfl⟩)
            · intro x hx
              rcases List.mem_append.1 hx with hx | hx
              · exact hsnd x hx
              · have : x = (gi l (j : Int)).2 := by simpa using hx
                subst this; exact .inr hrS
            · intro i' hi' q hq
              dsimp only at hq ⊢
              rw [gi_append_left (by omega)] at hq
              obtain ⟨h1, h2⟩ := hcl i' hi' q hq
              exact ⟨List.mem_append_left _ h1, h2⟩
            · intro j' hj' he
              dsimp only at hj' he ⊢
              rw [gi_append_left hiS] at he
              rcases Nat.lt_or_ge j' j with h1 | h1
              · obtain ⟨h2, h3⟩ := hjn j' h1 he
                exact ⟨List.mem_append_left _ h2, h3⟩
              · have : j' = j := by omega
                subst this
                exact ⟨List.mem_append_right _ (by simp), hqb⟩
          · simp at hh
            repeat (first|refine z_1 ?_|refine z_2 ?_|refine s_o ?_|refine z_3 ?_|refine z_4 ?_|refine z_5 ?_|refine z_6 ?_|refine z_7 ?_|refine z_8 ?_|refine z_9 ?_|refine z_a ?_|refine z_b ?_|refine z_d ?_|refine z_e ?_|refine z_f ?_|refine z_g ?_|refine z_h ?_|refine z_i ?_|refine z_j ?_|refine s_a ?_|refine s_s ?_|refine s_n ?_|refine s_i ?_|refine s_f ?_|refine s_b ?_|refine s_d ?_|refine s_l1 ?_|refine s_l2 ?_|refine s_l3 ?_|refine s_l4 ?_|refine s_l5 ?_|refine s_l6 ?_|refine s_l7 ?_|refine s_l8 ?_|refine s_l9 ?_|refine s_g ?_|refine s_q ?_|refine s_e ?_|refine s_j ?_)
            exact ⟨(j + 1, _, S), ⟨rfl, rfl, rfl, rfl, rfl, rfl, trivial⟩, ⟨hkb, by dsimp only; omega, hiS, hob, hnd, hsub, haS, hsnd, hcl, fun j' hj' he => by
              rcases Nat.lt_or_ge j' j with h1 | h1
              · exact hjn j' h1 he
              · have : j' = j := by dsimp only at hj'; omega
                subst this; exact ⟨hasI_iff.1 hh, hqb⟩⟩, by dsimp only; omega⟩
    · simp at hcj
      obtain rfl : j = n := by omega
      repeat (first|refine z_1 ?_|refine z_2 ?_|refine s_o ?_|refine z_3 ?_|refine z_4 ?_|refine z_5 ?_|refine z_6 ?_|refine z_7 ?_|refine z_8 ?_|refine z_9 ?_|refine z_a ?_|refine z_b ?_|refine z_d ?_|refine z_e ?_|refine z_f ?_|refine z_g ?_|refine z_h ?_|refine z_i ?_|refine z_j ?_|refine s_a ?_|refine s_s ?_|refine s_n ?_|refine s_i ?_|refine s_f ?_|refine s_b ?_|refine s_d ?_|refine s_l1 ?_|refine s_l2 ?_|refine s_l3 ?_|refine s_l4 ?_|refine s_l5 ?_|refine s_l6 ?_|refine s_l7 ?_|refine s_l8 ?_|refine s_l9 ?_|refine s_g ?_|refine s_q ?_|refine s_e ?_|refine s_j ?_)
      refine ⟨(i + 1, _, S), ⟨rfl, rfl, rfl, rfl, rfl, trivial⟩, ⟨hkb, by dsimp only; omega, hob, hnd, hsub, haS, hsnd, fun i' hi' q hq => ?_⟩, by dsimp only; omega⟩
      dsimp only at hi' hq ⊢
      rcases Nat.lt_or_ge i' i with h1 | h1
      · exact hcl i' h1 q hq
      · have : i' = i := by omega
        subst this
        obtain ⟨k, hk, he⟩ := List.getElem_of_mem hq
        have := hjn k (by omega)
        rw [gi_lt hk, he] at this
        exact this rfl
  · simp at hc
    have hie : i = S.length := by omega
    repeat (first|refine z_1 ?_|refine z_2 ?_|refine s_o ?_|refine z_3 ?_|refine z_4 ?_|refine z_5 ?_|refine z_6 ?_|refine z_7 ?_|refine z_8 ?_|refine z_9 ?_|refine z_a ?_|refine z_b ?_|refine z_d ?_|refine z_e ?_|refine z_f ?_|refine z_g ?_|refine z_h ?_|refine z_i ?_|refine z_j ?_|refine s_a ?_|refine s_s ?_|refine s_n ?_|refine s_i ?_|refine s_f ?_|refine s_b ?_|refine s_d ?_|refine s_l1 ?_|refine s_l2 ?_|refine s_l3 ?_|refine s_l4 ?_|refine s_l5 ?_|refine s_l6 ?_|refine s_l7 ?_|refine s_l8 ?_|refine s_l9 ?_|refine s_g ?_|refine s_q ?_|refine s_e ?_|refine s_j ?_)
    refine ret1 rfl rfl ⟨?_, hka⟩
    rw [hres false ?_]
    simp only [Bool.false_eq_true, false_iff]
    intro hr
    have hclosed : ∀ x y, x ∈ S → (x, y) ∈ l → y ∈ S := fun x y hx hxy => by
      obtain ⟨k, hk, he⟩ := List.getElem_of_mem hx
      have := hcl k (by omega) y (by rw [gi_lt hk, he]; exact hxy)
      exact this.1
    have hno : ∀ x, x ∈ S → (x, b) ∉ l := fun x hx hxy => by
      obtain ⟨k, hk, he⟩ := List.getElem_of_mem hx
      have := hcl k (by omega) b (by rw [gi_lt hk, he]; exact hxy)
      exact this.2 rfl
    obtain ⟨m, hm⟩ := hr
    rcases Rch.last m a b hm with h1 | ⟨q, ⟨m', h1⟩, h2⟩
    · exact hno a haS h1
    · exact hno q (Rch.closed (p := fun x => x ∈ S) hclosed m' a q haS h1) h2
end Go.E

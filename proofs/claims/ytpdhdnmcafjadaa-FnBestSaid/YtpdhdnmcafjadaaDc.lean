/-
  Contracts: a new cursor; items drawn from it. Conditions: as stated.
-/
import Derived.Test.YtpdhdnmcafjadaaDb
import Derived.Test.YtpdhdnmcafjadaaL9
set_option linter.unusedVariables false
set_option linter.unusedSimpArgs false
namespace Go.E
open Go Go.RowKit Go.Proofs
theorem Own.wrs {α : Type} {R : Rp α} {w w' : World} {base : Nat} {el : TypeId} {v : Value} {xs : List α} {fi : List Nat} (h : Own R w base el v xs fi) {b : Nat} (k : Wrs w w' [b]) (hb : v.ownBlock ≠ some b) (hf : b ∉ fi) : Own R w' base el v xs fi := by
  obtain ⟨cells, h1, h2⟩ := h
  refine ⟨cells, h1.kept (row := some b) ⟨k.os, k.tape, k.output, k.size, fun b' hb' hne => k.other b' hb' fun hm => hne (by simp at hm; rw [hm])⟩ ?_, h2.same fun b' hb' => k.other b' (h2.dom b' hb') fun hm => hf (by simp at hm; exact hm ▸ hb')⟩
  cases hv : v.ownBlock with
  | none => exact .inl rfl
  | some b' => exact .inr (by rw [← hv]; exact hb)
theorem OwnF.wrs {α : Type} {R : Rp α} {w w' : World} {base : Nat} {el : TypeId} {v : Value} {xs : List α} {fi : List Nat} (h : OwnF R w base el v xs fi) {b : Nat} (k : Wrs w w' [b]) (hb : b < base) : OwnF R w' base el v xs fi := by
  have hf : b ∉ fi := fun hm => by have := h.fresh.ge hm; omega
  exact ⟨h.own.wrs k (fun e => by have := (h.lt e).1; omega) hf, h.fresh.wrs k (fun c hc hm => hf (by simp at hm; exact hm ▸ hc)), h.out⟩
theorem Cur.lt {w : World} {b : Nat} (h : Cur w b) : b < w.heap.size := by
  obtain ⟨A, n, c, xs, fp, a, st, h1, _⟩ := h
  exact h1.lt
/-- what a world keeps where a cursor moved: the blocks before base, but the cursor's -/
theorem Wrs.grown {w w' w'' : World} {fp : List Nat} (h : Wrs w w' fp) {row : Option Nat} (k : w'.grownBy w'' row) (hr : ∀ c, row = some c → w.heap.size ≤ c) : Wrs w w'' fp :=
  ⟨k.os.trans h.os, k.tape.trans h.tape, k.output.trans h.output, Nat.le_trans h.size k.size, fun c hc hm => (k.block c (Nat.lt_of_lt_of_le hc h.size) fun e => by have := hr c e.symm; omega).trans (h.other c hc hm)⟩
theorem Wrs.keepR {w w' w'' : World} {fp : List Nat} (h : Wrs w w' fp) (k : Keep w' w'') : Wrs w w'' fp := h.trans k.wrs
theorem Wrs.updN {w w' w'' : World} {fp : List Nat} (h : Wrs w w' fp) {c : Nat} {t : TypeId} {cs : List Value} (k : Upd w' w'' c t cs) (hc : w.heap.size ≤ c) : Wrs w w'' fp :=
  ⟨k.os.trans h.os, k.tape.trans h.tape, k.output.trans h.output, by rw [k.size]; exact h.size, fun d hd hm => (k.other d (by omega)).trans (h.other d hd hm)⟩
theorem Cur.grown {w w' : World} {b : Nat} (h : Cur w b) {row : Option Nat} (k : w.grownBy w' row) (hr : ∀ c, row = some c → b < c) : Cur w' b := by
  obtain ⟨A, n, c, xs, fp, a, st, h1, h2, h3, h4, h5⟩ := h
  exact ⟨A, n, c, xs, fp, a, st, h1.grown k (fun e => by have := hr b e.symm; omega), h2.same fun d hd => k.block d (h2.dom d hd) fun e => by have := hr d e.symm; have := h4 d hd; omega, h3, h4, h5⟩
theorem Cur.upd {w w' : World} {b c : Nat} {t : TypeId} {cs : List Value} (h : Cur w b) (k : Upd w w' c t cs) (hr : b < c) : Cur w' b := by
  obtain ⟨A, n, c', xs, fp, a, st, h1, h2, h3, h4, h5⟩ := h
  exact ⟨A, n, c', xs, fp, a, st, h1.upd k (by omega), h2.upd k (fun hm => by have := h4 c hm; omega), h3, h4, h5⟩
attribute [local irreducible] W WL WD WE thenE inE retQ PureOp Keep Cell Cells Blk Sl Rows Own Src Fresh
attribute [local irreducible] Cur

set_option maxHeartbeats 1000000 in
theorem l1New_ok {w : World} {v : Value} {xs : List Int} {fp : List Nat} (hx : Sl u8R w v xs fp) (hn : xs.length ≤ 1048576) :
    Run Try.prog 105 [v] w (fun r w' => ∃ b : Nat, r = .pointer (some ⟨b, 0, none⟩) ∧ w.heap.size ≤ b ∧ Cur w' b ∧ Keep w w') := by
  have hdx := hx.dom
  have hx63 := hx.le
  obtain ⟨A, n, c, rfl, hnx⟩ := hx.split
  refine Run_intro Try.func105 (by unfold CallOk; kernel_rfl) rfl Try.ntmps105 (Nat.le_of_ble_eq_true rfl) ?_
  simp only [penv, Nat.reduceAdd, Nat.zero_add]
  repeat (first|refine z_1 ?_|refine z_2 ?_|refine s_o ?_|refine z_3 ?_|refine z_4 ?_|refine z_5 ?_|refine z_6 ?_|refine z_7 ?_|refine z_8 ?_|refine z_9 ?_|refine z_a ?_|refine z_b ?_|refine z_d ?_|refine z_e ?_|refine z_f ?_|refine z_g ?_|refine z_h ?_|refine z_i ?_|refine z_j ?_|refine s_a ?_|refine s_s ?_|refine s_n ?_|refine s_i ?_|refine s_f ?_|refine s_b ?_|refine s_d ?_|refine s_l1 ?_|refine s_l2 ?_|refine s_l3 ?_|refine s_l4 ?_|refine s_l5 ?_|refine s_l6 ?_|refine s_l7 ?_|refine s_l8 ?_|refine s_l9 ?_|refine s_g ?_|refine s_q ?_|refine s_e ?_|refine s_j ?_)
  refine W_loop (S := Nat × Int) (fun s => [(0, .slice A n c), (3, .int .i64 s.2), (4, .int .i64 (s.1 : Int))]) (fun s w' => Keep w w' ∧ s.1 ≤ n) (fun s => n - s.1) (0, _) ⟨rfl, rfl, find_int rfl (by dsimp only; omega), trivial⟩ ⟨Keep.refl _, Nat.zero_le _⟩ ?_
  rintro ⟨k, s⟩ wa ⟨hka, hkn⟩
  dsimp only at hkn ⊢
  have hxa := hx.keep hka
  repeat (first|refine z_1 ?_|refine z_2 ?_|refine s_o ?_|refine z_3 ?_|refine z_4 ?_|refine z_5 ?_|refine z_6 ?_|refine z_7 ?_|refine z_8 ?_|refine z_9 ?_|refine z_a ?_|refine z_b ?_|refine z_d ?_|refine z_e ?_|refine z_f ?_|refine z_g ?_|refine z_h ?_|refine z_i ?_|refine z_j ?_|refine s_a ?_|refine s_s ?_|refine s_n ?_|refine s_i ?_|refine s_f ?_|refine s_b ?_|refine s_d ?_|refine s_l1 ?_|refine s_l2 ?_|refine s_l3 ?_|refine s_l4 ?_|refine s_l5 ?_|refine s_l6 ?_|refine s_l7 ?_|refine s_l8 ?_|refine s_l9 ?_|refine s_g ?_|refine s_q ?_|refine s_e ?_|refine s_j ?_)
  refine WL_part rfl rfl (fun hc => ?_) (fun hc => ?_)
  · have hkl : k < n := by simp at hc; omega
    refine s_o ?_
    refine WL_pure rfl rfl (o_lss rfl rfl) ?_
    obtain ⟨q, hq⟩ : ∃ q, q = decide ((k : Int) < 4000) := ⟨_, rfl⟩
    rw [← hq]
    repeat (first|refine z_1 ?_|refine z_2 ?_|refine s_o ?_|refine z_3 ?_|refine z_4 ?_|refine z_5 ?_|refine z_6 ?_|refine z_7 ?_|refine z_8 ?_|refine z_9 ?_|refine z_a ?_|refine z_b ?_|refine z_d ?_|refine z_e ?_|refine z_f ?_|refine z_g ?_|refine z_h ?_|refine z_i ?_|refine z_j ?_|refine s_a ?_|refine s_s ?_|refine s_n ?_|refine s_i ?_|refine s_f ?_|refine s_b ?_|refine s_d ?_|refine s_l1 ?_|refine s_l2 ?_|refine s_l3 ?_|refine s_l4 ?_|refine s_l5 ?_|refine s_l6 ?_|refine s_l7 ?_|refine s_l8 ?_|refine s_l9 ?_|refine s_g ?_|refine s_q ?_|refine s_e ?_|refine s_j ?_)
    refine W_cond rfl (fun hc2 => ?_) (fun hc2 => ?_)
    · obtain ⟨hA, hcx⟩ := hxa.getB (i := (k : Int)) (by omega) (by omega)
      repeat (first|refine z_1 ?_|refine z_2 ?_|refine s_o ?_|refine z_3 ?_|refine z_4 ?_|refine z_5 ?_|refine z_6 ?_|refine z_7 ?_|refine z_8 ?_|refine z_9 ?_|refine z_a ?_|refine z_b ?_|refine z_d ?_|refine z_e ?_|refine z_f ?_|refine z_g ?_|refine z_h ?_|refine z_i ?_|refine z_j ?_|refine s_a ?_|refine s_s ?_|refine s_n ?_|refine s_i ?_|refine s_f ?_|refine s_b ?_|refine s_d ?_|refine s_l1 ?_|refine s_l2 ?_|refine s_l3 ?_|refine s_l4 ?_|refine s_l5 ?_|refine s_l6 ?_|refine s_l7 ?_|refine s_l8 ?_|refine s_l9 ?_|refine s_g ?_|refine s_q ?_|refine s_e ?_|refine s_j ?_)
      refine WL_pure rfl rfl (o_arith_w (op := .mul) rfl rfl rfl) ?_
      repeat (first|refine z_1 ?_|refine z_2 ?_|refine s_o ?_|refine z_3 ?_|refine z_4 ?_|refine z_5 ?_|refine z_6 ?_|refine z_7 ?_|refine z_8 ?_|refine z_9 ?_|refine z_a ?_|refine z_b ?_|refine z_d ?_|refine z_e ?_|refine z_f ?_|refine z_g ?_|refine z_h ?_|refine z_i ?_|refine z_j ?_|refine s_a ?_|refine s_s ?_|refine s_n ?_|refine s_i ?_|refine s_f ?_|refine s_b ?_|refine s_d ?_|refine s_l1 ?_|refine s_l2 ?_|refine s_l3 ?_|refine s_l4 ?_|refine s_l5 ?_|refine s_l6 ?_|refine s_l7 ?_|refine s_l8 ?_|refine s_l9 ?_|refine s_g ?_|refine s_q ?_|refine s_e ?_|refine s_j ?_)
      refine WL_pure rfl rfl (o_conv inferInstance ⟨.int .u8, by kernel_rfl⟩ rfl) ?_
      refine WL_pure rfl rfl (o_arith_w (op := .add) rfl rfl rfl) ?_
      refine WL_pure rfl rfl (o_arith_w (op := .add) rfl rfl rfl) ?_
      refine WL_and (o_and rfl rfl (by decide) (by decide)) rfl rfl fun y hy0 hy1 => ?_
      repeat (first|refine z_1 ?_|refine z_2 ?_|refine s_o ?_|refine z_3 ?_|refine z_4 ?_|refine z_5 ?_|refine z_6 ?_|refine z_7 ?_|refine z_8 ?_|refine z_9 ?_|refine z_a ?_|refine z_b ?_|refine z_d ?_|refine z_e ?_|refine z_f ?_|refine z_g ?_|refine z_h ?_|refine z_i ?_|refine z_j ?_|refine s_a ?_|refine s_s ?_|refine s_n ?_|refine s_i ?_|refine s_f ?_|refine s_b ?_|refine s_d ?_|refine s_l1 ?_|refine s_l2 ?_|refine s_l3 ?_|refine s_l4 ?_|refine s_l5 ?_|refine s_l6 ?_|refine s_l7 ?_|refine s_l8 ?_|refine s_l9 ?_|refine s_g ?_|refine s_q ?_|refine s_e ?_|refine s_j ?_)
      exact ⟨(k + 1, y), ⟨rfl, rfl, find_int rfl (by dsimp only; omega), trivial⟩, ⟨hka, by dsimp only; omega⟩, by dsimp only; omega⟩
    · repeat (first|refine z_1 ?_|refine z_2 ?_|refine s_o ?_|refine z_3 ?_|refine z_4 ?_|refine z_5 ?_|refine z_6 ?_|refine z_7 ?_|refine z_8 ?_|refine z_9 ?_|refine z_a ?_|refine z_b ?_|refine z_d ?_|refine z_e ?_|refine z_f ?_|refine z_g ?_|refine z_h ?_|refine z_i ?_|refine z_j ?_|refine s_a ?_|refine s_s ?_|refine s_n ?_|refine s_i ?_|refine s_f ?_|refine s_b ?_|refine s_d ?_|refine s_l1 ?_|refine s_l2 ?_|refine s_l3 ?_|refine s_l4 ?_|refine s_l5 ?_|refine s_l6 ?_|refine s_l7 ?_|refine s_l8 ?_|refine s_l9 ?_|refine s_g ?_|refine s_q ?_|refine s_e ?_|refine s_j ?_)
      refine WL_pure rfl rfl (o_buildT (cs := [.slice A n c, .int .i64 0, .int .i64 s]) rfl rfl) ?_
      refine o_boxS rfl rfl rfl ?_
      intro b w2 hal
      repeat (first|refine z_1 ?_|refine z_2 ?_|refine s_o ?_|refine z_3 ?_|refine z_4 ?_|refine z_5 ?_|refine z_6 ?_|refine z_7 ?_|refine z_8 ?_|refine z_9 ?_|refine z_a ?_|refine z_b ?_|refine z_d ?_|refine z_e ?_|refine z_f ?_|refine z_g ?_|refine z_h ?_|refine z_i ?_|refine z_j ?_|refine s_a ?_|refine s_s ?_|refine s_n ?_|refine s_i ?_|refine s_f ?_|refine s_b ?_|refine s_d ?_|refine s_l1 ?_|refine s_l2 ?_|refine s_l3 ?_|refine s_l4 ?_|refine s_l5 ?_|refine s_l6 ?_|refine s_l7 ?_|refine s_l8 ?_|refine s_l9 ?_|refine s_g ?_|refine s_q ?_|refine s_e ?_|refine s_j ?_)
      exact ret1 rfl rfl ⟨b, rfl, by have := hal.b_eq; have := hka.size_le; omega, by unfold Cur; exact ⟨A, n, c, xs, fp, 0, s, hal.blk, hxa.keep hal.kp, by omega, fun d hd => by have := hdx d hd; have := hal.b_eq; have := hka.size_le; omega, by omega⟩, hka.keep hal.kp⟩
  · repeat (first|refine z_1 ?_|refine z_2 ?_|refine s_o ?_|refine z_3 ?_|refine z_4 ?_|refine z_5 ?_|refine z_6 ?_|refine z_7 ?_|refine z_8 ?_|refine z_9 ?_|refine z_a ?_|refine z_b ?_|refine z_d ?_|refine z_e ?_|refine z_f ?_|refine z_g ?_|refine z_h ?_|refine z_i ?_|refine z_j ?_|refine s_a ?_|refine s_s ?_|refine s_n ?_|refine s_i ?_|refine s_f ?_|refine s_b ?_|refine s_d ?_|refine s_l1 ?_|refine s_l2 ?_|refine s_l3 ?_|refine s_l4 ?_|refine s_l5 ?_|refine s_l6 ?_|refine s_l7 ?_|refine s_l8 ?_|refine s_l9 ?_|refine s_g ?_|refine s_q ?_|refine s_e ?_|refine s_j ?_)
    refine WL_pure rfl rfl (o_buildT (cs := [.slice A n c, .int .i64 0, .int .i64 s]) rfl rfl) ?_
    refine o_boxS rfl rfl rfl ?_
    intro b w2 hal
    repeat (first|refine z_1 ?_|refine z_2 ?_|refine s_o ?_|refine z_3 ?_|refine z_4 ?_|refine z_5 ?_|refine z_6 ?_|refine z_7 ?_|refine z_8 ?_|refine z_9 ?_|refine z_a ?_|refine z_b ?_|refine z_d ?_|refine z_e ?_|refine z_f ?_|refine z_g ?_|refine z_h ?_|refine z_i ?_|refine z_j ?_|refine s_a ?_|refine s_s ?_|refine s_n ?_|refine s_i ?_|refine s_f ?_|refine s_b ?_|refine s_d ?_|refine s_l1 ?_|refine s_l2 ?_|refine s_l3 ?_|refine s_l4 ?_|refine s_l5 ?_|refine s_l6 ?_|refine s_l7 ?_|refine s_l8 ?_|refine s_l9 ?_|refine s_g ?_|refine s_q ?_|refine s_e ?_|refine s_j ?_)
    exact ret1 rfl rfl ⟨b, rfl, by have := hal.b_eq; have := hka.size_le; omega, by unfold Cur; exact ⟨A, n, c, xs, fp, 0, s, hal.blk, hxa.keep hal.kp, by omega, fun d hd => by have := hdx d hd; have := hal.b_eq; have := hka.size_le; omega, by omega⟩, hka.keep hal.kp⟩

set_option maxHeartbeats 1000000 in
theorem l2Item_ok {w : World} {b : Nat} (hc : Cur w b) {id m : Int} (hm : m ≤ 256) :
    Run Try.prog 154 [.pointer (some ⟨b, 0, none⟩), .int .i64 id, .int .i64 m] w (fun r w' => ∃ (u : Value) (xs : List Int), r = .agg #[.int .i64 id, u] ∧ OwnF intR w' w.heap.size 3 u xs [] ∧ xs.length = 3 ∧ Cur w' b ∧ Wrs w w' [b]) := by
  have hbl := hc.lt
  refine Run_intro Try.func154 (by unfold CallOk; kernel_rfl) rfl Try.ntmps154 (Nat.le_of_ble_eq_true rfl) ?_
  simp only [penv, Nat.reduceAdd, Nat.zero_add]
  repeat (first|refine z_1 ?_|refine z_2 ?_|refine s_o ?_|refine z_3 ?_|refine z_4 ?_|refine z_5 ?_|refine z_6 ?_|refine z_7 ?_|refine z_8 ?_|refine z_9 ?_|refine z_a ?_|refine z_b ?_|refine z_d ?_|refine z_e ?_|refine z_f ?_|refine z_g ?_|refine z_h ?_|refine z_i ?_|refine z_j ?_|refine s_a ?_|refine s_s ?_|refine s_n ?_|refine s_i ?_|refine s_f ?_|refine s_b ?_|refine s_d ?_|refine s_l1 ?_|refine s_l2 ?_|refine s_l3 ?_|refine s_l4 ?_|refine s_l5 ?_|refine s_l6 ?_|refine s_l7 ?_|refine s_l8 ?_|refine s_l9 ?_|refine s_g ?_|refine s_q ?_|refine s_e ?_|refine s_j ?_)
  refine o_alloc rfl rfl ?_
  intro b6 w1 hal6
  have hb6 := hal6.blk
  have he6 := hal6.b_eq
  have hz6 := hal6.size
  have hw : Wrs w w1 [b] := hal6.kp.wrs
  replace hc := hc.keep hal6.kp
  repeat (first|refine z_1 ?_|refine z_2 ?_|refine s_o ?_|refine z_3 ?_|refine z_4 ?_|refine z_5 ?_|refine z_6 ?_|refine z_7 ?_|refine z_8 ?_|refine z_9 ?_|refine z_a ?_|refine z_b ?_|refine z_d ?_|refine z_e ?_|refine z_f ?_|refine z_g ?_|refine z_h ?_|refine z_i ?_|refine z_j ?_|refine s_a ?_|refine s_s ?_|refine s_n ?_|refine s_i ?_|refine s_f ?_|refine s_b ?_|refine s_d ?_|refine s_l1 ?_|refine s_l2 ?_|refine s_l3 ?_|refine s_l4 ?_|refine s_l5 ?_|refine s_l6 ?_|refine s_l7 ?_|refine s_l8 ?_|refine s_l9 ?_|refine s_g ?_|refine s_q ?_|refine s_e ?_|refine s_j ?_)
  refine WL_pure rfl rfl (o_buildT (cs := [.int .i64 id, .slice none 0 0]) rfl rfl) ?_
  repeat (first|refine z_1 ?_|refine z_2 ?_|refine s_o ?_|refine z_3 ?_|refine z_4 ?_|refine z_5 ?_|refine z_6 ?_|refine z_7 ?_|refine z_8 ?_|refine z_9 ?_|refine z_a ?_|refine z_b ?_|refine z_d ?_|refine z_e ?_|refine z_f ?_|refine z_g ?_|refine z_h ?_|refine z_i ?_|refine z_j ?_|refine s_a ?_|refine s_s ?_|refine s_n ?_|refine s_i ?_|refine s_f ?_|refine s_b ?_|refine s_d ?_|refine s_l1 ?_|refine s_l2 ?_|refine s_l3 ?_|refine s_l4 ?_|refine s_l5 ?_|refine s_l6 ?_|refine s_l7 ?_|refine s_l8 ?_|refine s_l9 ?_|refine s_g ?_|refine s_q ?_|refine s_e ?_|refine s_j ?_)
  refine o_alloc rfl rfl ?_
  intro b7 w2 hal7
  have hb7 := hal7.blk
  have he7 := hal7.b_eq
  have hz7 := hal7.size
  replace hw := hw.keepR hal7.kp
  replace hc := hc.keep hal7.kp
  replace hb6 := hb6.keep hal7.kp
  repeat (first|refine z_1 ?_|refine z_2 ?_|refine s_o ?_|refine z_3 ?_|refine z_4 ?_|refine z_5 ?_|refine z_6 ?_|refine z_7 ?_|refine z_8 ?_|refine z_9 ?_|refine z_a ?_|refine z_b ?_|refine z_d ?_|refine z_e ?_|refine z_f ?_|refine z_g ?_|refine z_h ?_|refine z_i ?_|refine z_j ?_|refine s_a ?_|refine s_s ?_|refine s_n ?_|refine s_i ?_|refine s_f ?_|refine s_b ?_|refine s_d ?_|refine s_l1 ?_|refine s_l2 ?_|refine s_l3 ?_|refine s_l4 ?_|refine s_l5 ?_|refine s_l6 ?_|refine s_l7 ?_|refine s_l8 ?_|refine s_l9 ?_|refine s_g ?_|refine s_q ?_|refine s_e ?_|refine s_j ?_)
  refine o_storeS (b := b7) (off := 0) rfl rfl rfl rfl (by repeat (first | exact ones_nil | refine ones_cons (by first | rfl | assumption) ?_)) rfl hb7 (by simp) ?_
  intro w3 hu3
  have hb7' : Blk w3 b7 66 [.int .i64 id, .slice none 0 0] := hu3.blk
  have hz3 := hu3.size
  replace hw := hw.updN hu3 (by omega)
  replace hc := hc.upd hu3 (by omega)
  replace hb6 := hb6.upd hu3 (by omega)
  have ho : OwnF intR w3 w3.heap.size 3 (.slice none 0 0) [] [] := OwnF.none_ _ _ _
  repeat (first|refine z_1 ?_|refine z_2 ?_|refine s_o ?_|refine z_3 ?_|refine z_4 ?_|refine z_5 ?_|refine z_6 ?_|refine z_7 ?_|refine z_8 ?_|refine z_9 ?_|refine z_a ?_|refine z_b ?_|refine z_d ?_|refine z_e ?_|refine z_f ?_|refine z_g ?_|refine z_h ?_|refine z_i ?_|refine z_j ?_|refine s_a ?_|refine s_s ?_|refine s_n ?_|refine s_i ?_|refine s_f ?_|refine s_b ?_|refine s_d ?_|refine s_l1 ?_|refine s_l2 ?_|refine s_l3 ?_|refine s_l4 ?_|refine s_l5 ?_|refine s_l6 ?_|refine s_l7 ?_|refine s_l8 ?_|refine s_l9 ?_|refine s_g ?_|refine s_q ?_|refine s_e ?_|refine s_j ?_)
  refine W_loop (S := Nat × Value × List Int) (fun s => [(0, .pointer (some ⟨b, 0, none⟩)), (2, .int .i64 m), (6, .pointer (some ⟨b6, 0, none⟩)), (7, .pointer (some ⟨b7, 0, none⟩)), (8, .int .i64 (s.1 : Int))]) (fun s w' => Wrs w w' [b] ∧ Cur w' b ∧ (s.1 ≤ 3 ∧ w3.heap.size ≤ w'.heap.size) ∧ Blk w' b6 66 [.int .i64 0, .slice none 0 0] ∧ Blk w' b7 66 [.int .i64 id, s.2.1] ∧ s.2.2.length = s.1 ∧ OwnF intR w' w3.heap.size 3 s.2.1 s.2.2 []) (fun s => 3 - s.1) (0, _, []) ⟨rfl, rfl, rfl, rfl, find_int rfl (by dsimp only; omega), trivial⟩ ⟨hw, hc, ⟨by omega, Nat.le_refl _⟩, hb6, hb7', rfl, ho⟩ ?_
  clear hw hc hb6 hb7 hb7' ho hu3
  rintro ⟨k, va, xs⟩ wa ⟨hwa, hca, ⟨hk3, hz3a⟩, hb6, hb7, hxl, hoa⟩
  dsimp only at hk3 hb6 hb7 hxl hoa ⊢
  have hza := hwa.size
  obtain ⟨Av, nv, cv, rfl, hnv, _⟩ := hoa.split
  repeat (first|refine z_1 ?_|refine z_2 ?_|refine s_o ?_|refine z_3 ?_|refine z_4 ?_|refine z_5 ?_|refine z_6 ?_|refine z_7 ?_|refine z_8 ?_|refine z_9 ?_|refine z_a ?_|refine z_b ?_|refine z_d ?_|refine z_e ?_|refine z_f ?_|refine z_g ?_|refine z_h ?_|refine z_i ?_|refine z_j ?_|refine s_a ?_|refine s_s ?_|refine s_n ?_|refine s_i ?_|refine s_f ?_|refine s_b ?_|refine s_d ?_|refine s_l1 ?_|refine s_l2 ?_|refine s_l3 ?_|refine s_l4 ?_|refine s_l5 ?_|refine s_l6 ?_|refine s_l7 ?_|refine s_l8 ?_|refine s_l9 ?_|refine s_g ?_|refine s_q ?_|refine s_e ?_|refine s_j ?_)
  refine W_cond rfl (fun hd => ?_) (fun hd => ?_)
  · have hkl : k < 3 := by simp at hd; omega
    repeat (first|refine z_1 ?_|refine z_2 ?_|refine s_o ?_|refine z_3 ?_|refine z_4 ?_|refine z_5 ?_|refine z_6 ?_|refine z_7 ?_|refine z_8 ?_|refine z_9 ?_|refine z_a ?_|refine z_b ?_|refine z_d ?_|refine z_e ?_|refine z_f ?_|refine z_g ?_|refine z_h ?_|refine z_i ?_|refine z_j ?_|refine s_a ?_|refine s_s ?_|refine s_n ?_|refine s_i ?_|refine s_f ?_|refine s_b ?_|refine s_d ?_|refine s_l1 ?_|refine s_l2 ?_|refine s_l3 ?_|refine s_l4 ?_|refine s_l5 ?_|refine s_l6 ?_|refine s_l7 ?_|refine s_l8 ?_|refine s_l9 ?_|refine s_g ?_|refine s_q ?_|refine s_e ?_|refine s_j ?_)
    refine o_call rfl rfl rfl (l1Below_ok hca hm) ?_
    rintro _ w4 ⟨x, rfl, hx0, hx1, _, hc4, hw4⟩
    have hz4 := hw4.size
    replace hwa := hwa.trans hw4
    replace hoa := hoa.wrs hw4 (by omega)
    replace hb6 := hb6.wrs hw4 (by simp; omega)
    replace hb7 := hb7.wrs hw4 (by simp; omega)
    repeat (first|refine z_1 ?_|refine z_2 ?_|refine s_o ?_|refine z_3 ?_|refine z_4 ?_|refine z_5 ?_|refine z_6 ?_|refine z_7 ?_|refine z_8 ?_|refine z_9 ?_|refine z_a ?_|refine z_b ?_|refine z_d ?_|refine z_e ?_|refine z_f ?_|refine z_g ?_|refine z_h ?_|refine z_i ?_|refine z_j ?_|refine s_a ?_|refine s_s ?_|refine s_n ?_|refine s_i ?_|refine s_f ?_|refine s_b ?_|refine s_d ?_|refine s_l1 ?_|refine s_l2 ?_|refine s_l3 ?_|refine s_l4 ?_|refine s_l5 ?_|refine s_l6 ?_|refine s_l7 ?_|refine s_l8 ?_|refine s_l9 ?_|refine s_g ?_|refine s_q ?_|refine s_e ?_|refine s_j ?_)
    refine o_buildSlice rfl rfl rfl rfl rfl (by simp [Value.cells]) (by omega) ?_
    intro b5 w5 hal5
    have hz5 := hal5.size
    replace hwa := hwa.keepR hal5.kp
    replace hoa := hoa.keep hal5.kp
    replace hb6 := hb6.keep hal5.kp
    replace hb7 := hb7.keep hal5.kp
    replace hc4 := hc4.keep hal5.kp
    repeat (first|refine z_1 ?_|refine z_2 ?_|refine s_o ?_|refine z_3 ?_|refine z_4 ?_|refine z_5 ?_|refine z_6 ?_|refine z_7 ?_|refine z_8 ?_|refine z_9 ?_|refine z_a ?_|refine z_b ?_|refine z_d ?_|refine z_e ?_|refine z_f ?_|refine z_g ?_|refine z_h ?_|refine z_i ?_|refine z_j ?_|refine s_a ?_|refine s_s ?_|refine s_n ?_|refine s_i ?_|refine s_f ?_|refine s_b ?_|refine s_d ?_|refine s_l1 ?_|refine s_l2 ?_|refine s_l3 ?_|refine s_l4 ?_|refine s_l5 ?_|refine s_l6 ?_|refine s_l7 ?_|refine s_l8 ?_|refine s_l9 ?_|refine s_g ?_|refine s_q ?_|refine s_e ?_|refine s_j ?_)
    refine o_appendF (R := intR) (M := _) (gi := []) rfl rfl rfl rfl rfl (by decide) hoa (Blk.src (xs := [x]) hal5.blk (Rows.ints _ _)) rfl (Fresh.nil _ _) (fun b hb => by simp at hb) (fun b hb => (hoa.lt hb).2) (fun b hb => by simp at hb) (by simp only [List.length_cons, List.length_nil]; omega) (by simp only [List.length_cons, List.length_nil]; omega) (by omega) ?_
    intro vN wN hoN hbN hgN
    have hrow : ∀ c, (Value.slice Av nv cv).ownBlock = some c → w3.heap.size ≤ c := fun c hc => (hoa.lt hc).1
    replace hwa := hwa.grown hgN (fun c hc => by have := hrow c hc; omega)
    replace hc4 := hc4.grown hgN (fun c hc => by have := hrow c hc; omega)
    replace hb6 := hb6.grown hgN (fun e => by have := hrow _ e.symm; omega)
    replace hb7 := hb7.grown hgN (fun e => by have := hrow _ e.symm; omega)
    obtain ⟨A', n', c', rfl, _⟩ := hoN.split
    repeat (first|refine z_1 ?_|refine z_2 ?_|refine s_o ?_|refine z_3 ?_|refine z_4 ?_|refine z_5 ?_|refine z_6 ?_|refine z_7 ?_|refine z_8 ?_|refine z_9 ?_|refine z_a ?_|refine z_b ?_|refine z_d ?_|refine z_e ?_|refine z_f ?_|refine z_g ?_|refine z_h ?_|refine z_i ?_|refine z_j ?_|refine s_a ?_|refine s_s ?_|refine s_n ?_|refine s_i ?_|refine s_f ?_|refine s_b ?_|refine s_d ?_|refine s_l1 ?_|refine s_l2 ?_|refine s_l3 ?_|refine s_l4 ?_|refine s_l5 ?_|refine s_l6 ?_|refine s_l7 ?_|refine s_l8 ?_|refine s_l9 ?_|refine s_g ?_|refine s_q ?_|refine s_e ?_|refine s_j ?_)
    refine o_store1 (b := b7) (off := 1) rfl rfl rfl rfl rfl hb7 (by simp) ?_
    intro w6 hu6
    have hb7n : Blk w6 b7 66 [.int .i64 id, .slice A' n' c'] := hu6.blk
    repeat (first|refine z_1 ?_|refine z_2 ?_|refine s_o ?_|refine z_3 ?_|refine z_4 ?_|refine z_5 ?_|refine z_6 ?_|refine z_7 ?_|refine z_8 ?_|refine z_9 ?_|refine z_a ?_|refine z_b ?_|refine z_d ?_|refine z_e ?_|refine z_f ?_|refine z_g ?_|refine z_h ?_|refine z_i ?_|refine z_j ?_|refine s_a ?_|refine s_s ?_|refine s_n ?_|refine s_i ?_|refine s_f ?_|refine s_b ?_|refine s_d ?_|refine s_l1 ?_|refine s_l2 ?_|refine s_l3 ?_|refine s_l4 ?_|refine s_l5 ?_|refine s_l6 ?_|refine s_l7 ?_|refine s_l8 ?_|refine s_l9 ?_|refine s_g ?_|refine s_q ?_|refine s_e ?_|refine s_j ?_)
    exact ⟨(k + 1, _, xs ++ [x]), ⟨rfl, rfl, rfl, rfl, find_int rfl (by dsimp only; omega), trivial⟩, ⟨hwa.updN hu6 (by omega), hc4.upd hu6 (by omega), ⟨by dsimp only; omega, by have := hgN.size; have := hu6.size; omega⟩, hb6.upd hu6 (by omega), hb7n, by simp [hxl], hoN.upd hu6 (fun e => by have := (hoN.lt e).1; omega) (by simp)⟩, by dsimp only; omega⟩
  · have hk : k = 3 := by simp at hd; omega
    repeat (first|refine z_1 ?_|refine z_2 ?_|refine s_o ?_|refine z_3 ?_|refine z_4 ?_|refine z_5 ?_|refine z_6 ?_|refine z_7 ?_|refine z_8 ?_|refine z_9 ?_|refine z_a ?_|refine z_b ?_|refine z_d ?_|refine z_e ?_|refine z_f ?_|refine z_g ?_|refine z_h ?_|refine z_i ?_|refine z_j ?_|refine s_a ?_|refine s_s ?_|refine s_n ?_|refine s_i ?_|refine s_f ?_|refine s_b ?_|refine s_d ?_|refine s_l1 ?_|refine s_l2 ?_|refine s_l3 ?_|refine s_l4 ?_|refine s_l5 ?_|refine s_l6 ?_|refine s_l7 ?_|refine s_l8 ?_|refine s_l9 ?_|refine s_g ?_|refine s_q ?_|refine s_e ?_|refine s_j ?_)
    refine o_storeS (b := b6) (off := 0) rfl rfl rfl rfl (by repeat (first | exact ones_nil | refine ones_cons (by first | rfl | assumption) ?_)) rfl hb6 (by simp) ?_
    intro w7 hu7
    have hb6' : Blk w7 b6 66 [.int .i64 id, .slice Av nv cv] := hu7.blk
    repeat (first|refine z_1 ?_|refine z_2 ?_|refine s_o ?_|refine z_3 ?_|refine z_4 ?_|refine z_5 ?_|refine z_6 ?_|refine z_7 ?_|refine z_8 ?_|refine z_9 ?_|refine z_a ?_|refine z_b ?_|refine z_d ?_|refine z_e ?_|refine z_f ?_|refine z_g ?_|refine z_h ?_|refine z_i ?_|refine z_j ?_|refine s_a ?_|refine s_s ?_|refine s_n ?_|refine s_i ?_|refine s_f ?_|refine s_b ?_|refine s_d ?_|refine s_l1 ?_|refine s_l2 ?_|refine s_l3 ?_|refine s_l4 ?_|refine s_l5 ?_|refine s_l6 ?_|refine s_l7 ?_|refine s_l8 ?_|refine s_l9 ?_|refine s_g ?_|refine s_q ?_|refine s_e ?_|refine s_j ?_)
    exact retc rfl rfl hb6'.cells rfl ⟨_, xs, rfl, (hoa.upd hu7 (fun e => by have := (hoa.lt e).1; omega) (by simp)).below (by omega), by omega, hca.upd hu7 (by omega), hwa.updN hu7 (by omega)⟩
end Go.E

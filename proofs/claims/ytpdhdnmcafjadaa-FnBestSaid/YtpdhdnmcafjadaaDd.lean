/-
  Contracts: lists of items drawn from a cursor. Conditions: as stated.
-/
import Derived.Test.YtpdhdnmcafjadaaDc
import Derived.Test.YtpdhdnmcafjadaaIt
import Derived.Test.YtpdhdnmcafjadaaBs
set_option linter.unusedVariables false
set_option linter.unusedSimpArgs false
namespace Go.E
open Go Go.RowKit Go.Proofs
/-- items that are drawn: short lists of numbers -/
def small (L : List Itm) : Prop := ∀ x, x ∈ L → x.vals.length ≤ 4
theorem small_tot {L : List Itm} (h : small L) : totI L ≤ 4 * L.length := by
  induction L with
  | nil => simp [totI]
  | cons x r ih =>
    have h1 := h x (by simp)
    have h2 := ih fun y hy => h y (List.mem_cons_of_mem _ hy)
    simp only [totI, List.length_cons]; omega
theorem small_snoc {L : List Itm} {x : Itm} (h : small L) (hx : x.vals.length ≤ 4) : small (L ++ [x]) := fun y hy => by
  rcases List.mem_append.1 hy with hy | hy
  · exact h y hy
  · rw [List.mem_singleton] at hy; rw [hy]; exact hx
attribute [local irreducible] W WL WD WE thenE inE retQ PureOp Keep Cell Cells Blk Sl Rows Own Src Fresh
attribute [local irreducible] Cur

set_option maxHeartbeats 1000000 in
theorem l2Items_ok {w : World} {b : Nat} (hc : Cur w b) {m : Int} (h0 : 0 ≤ m) (hm : m ≤ 100) :
    Run Try.prog 133 [.pointer (some ⟨b, 0, none⟩), .int .i64 m] w (fun r w' => ∃ (L : List Itm) (fi : List Nat), OwnF itemR w' w.heap.size 66 r L fi ∧ L.length ≤ 100 ∧ small L ∧ Cur w' b ∧ Wrs w w' [b]) := by
  have hbl := hc.lt
  refine Run_intro Try.func133 (by unfold CallOk; kernel_rfl) rfl Try.ntmps133 (Nat.le_of_ble_eq_true rfl) ?_
  simp only [penv, Nat.reduceAdd, Nat.zero_add]
  repeat (first|refine z_1 ?_|refine z_2 ?_|refine s_o ?_|refine z_3 ?_|refine z_4 ?_|refine z_5 ?_|refine z_6 ?_|refine z_7 ?_|refine z_8 ?_|refine z_9 ?_|refine z_a ?_|refine z_b ?_|refine z_d ?_|refine z_e ?_|refine z_f ?_|refine z_g ?_|refine z_h ?_|refine z_i ?_|refine z_j ?_|refine s_a ?_|refine s_s ?_|refine s_n ?_|refine s_i ?_|refine s_f ?_|refine s_b ?_|refine s_d ?_|refine s_l1 ?_|refine s_l2 ?_|refine s_l3 ?_|refine s_l4 ?_|refine s_l5 ?_|refine s_l6 ?_|refine s_l7 ?_|refine s_l8 ?_|refine s_l9 ?_|refine s_g ?_|refine s_q ?_|refine s_e ?_|refine s_j ?_)
  refine o_buildSlice rfl rfl rfl rfl rfl (by intro p hp; cases hp) (by omega) ?_
  intro bO wO halO
  have hkO := halO.kp
  have heO := halO.b_eq
  have hzO := halO.size
  have hw : Wrs w wO [b] := hkO.wrs
  replace hc := hc.keep hkO
  have ho : OwnF itemR wO w.heap.size 66 (.slice (some ⟨bO, 0, none⟩) 0 0) [] [] := OwnF.made halO.blk (by omega)
  repeat (first|refine z_1 ?_|refine z_2 ?_|refine s_o ?_|refine z_3 ?_|refine z_4 ?_|refine z_5 ?_|refine z_6 ?_|refine z_7 ?_|refine z_8 ?_|refine z_9 ?_|refine z_a ?_|refine z_b ?_|refine z_d ?_|refine z_e ?_|refine z_f ?_|refine z_g ?_|refine z_h ?_|refine z_i ?_|refine z_j ?_|refine s_a ?_|refine s_s ?_|refine s_n ?_|refine s_i ?_|refine s_f ?_|refine s_b ?_|refine s_d ?_|refine s_l1 ?_|refine s_l2 ?_|refine s_l3 ?_|refine s_l4 ?_|refine s_l5 ?_|refine s_l6 ?_|refine s_l7 ?_|refine s_l8 ?_|refine s_l9 ?_|refine s_g ?_|refine s_q ?_|refine s_e ?_|refine s_j ?_)
  refine o_buildSlice rfl rfl rfl rfl rfl (by simp [Value.cells]) (by omega) ?_
  intro b2 w2 hal2
  have he2 := hal2.b_eq
  have hz2 := hal2.size
  replace hw := hw.keepR hal2.kp
  replace hc := hc.keep hal2.kp
  replace ho := ho.keep hal2.kp
  have hs2 : Sl intR w2 (.slice (some ⟨b2, 0, none⟩) 3 3) [2, 4, 10] [b2] := Sl.ofInts (xs := [2, 4, 10]) hal2.blk (fun i hi => by
    rcases (show i = 0 ∨ i = 1 ∨ i = 2 by simp at hi; omega) with rfl | rfl | rfl <;> rfl) rfl (Nat.le_refl _)
  repeat (first|refine z_1 ?_|refine z_2 ?_|refine s_o ?_|refine z_3 ?_|refine z_4 ?_|refine z_5 ?_|refine z_6 ?_|refine z_7 ?_|refine z_8 ?_|refine z_9 ?_|refine z_a ?_|refine z_b ?_|refine z_d ?_|refine z_e ?_|refine z_f ?_|refine z_g ?_|refine z_h ?_|refine z_i ?_|refine z_j ?_|refine s_a ?_|refine s_s ?_|refine s_n ?_|refine s_i ?_|refine s_f ?_|refine s_b ?_|refine s_d ?_|refine s_l1 ?_|refine s_l2 ?_|refine s_l3 ?_|refine s_l4 ?_|refine s_l5 ?_|refine s_l6 ?_|refine s_l7 ?_|refine s_l8 ?_|refine s_l9 ?_|refine s_g ?_|refine s_q ?_|refine s_e ?_|refine s_j ?_)
  refine o_call rfl rfl rfl (l1PickInt_ok hc hs2 (by simp; omega) (by simp) (by simp)) ?_
  rintro _ w3 ⟨i3, hi3, rfl, hc3, hw3⟩
  have hm3 : gi ([2, 4, 10] : List Int) (i3 : Int) ≤ 256 := by
    rcases (show i3 = 0 ∨ i3 = 1 ∨ i3 = 2 by simp at hi3; omega) with rfl | rfl | rfl <;> decide
  have hz3 := hw3.size
  replace hw := hw.trans hw3
  replace ho := ho.wrs hw3 (by omega)
  repeat (first|refine z_1 ?_|refine z_2 ?_|refine s_o ?_|refine z_3 ?_|refine z_4 ?_|refine z_5 ?_|refine z_6 ?_|refine z_7 ?_|refine z_8 ?_|refine z_9 ?_|refine z_a ?_|refine z_b ?_|refine z_d ?_|refine z_e ?_|refine z_f ?_|refine z_g ?_|refine z_h ?_|refine z_i ?_|refine z_j ?_|refine s_a ?_|refine s_s ?_|refine s_n ?_|refine s_i ?_|refine s_f ?_|refine s_b ?_|refine s_d ?_|refine s_l1 ?_|refine s_l2 ?_|refine s_l3 ?_|refine s_l4 ?_|refine s_l5 ?_|refine s_l6 ?_|refine s_l7 ?_|refine s_l8 ?_|refine s_l9 ?_|refine s_g ?_|refine s_q ?_|refine s_e ?_|refine s_j ?_)
  refine o_call rfl rfl rfl (l1Below_ok hc3 (by omega)) ?_
  rintro _ w4 ⟨x4, rfl, hx40, hx41, hx42, hc4, hw4⟩
  have hx43 := hx42 (by omega)
  have hz4 := hw4.size
  replace hw := hw.trans hw4
  replace ho := ho.wrs hw4 (by omega)
  repeat (first|refine z_1 ?_|refine z_2 ?_|refine s_o ?_|refine z_3 ?_|refine z_4 ?_|refine z_5 ?_|refine z_6 ?_|refine z_7 ?_|refine z_8 ?_|refine z_9 ?_|refine z_a ?_|refine z_b ?_|refine z_d ?_|refine z_e ?_|refine z_f ?_|refine z_g ?_|refine z_h ?_|refine z_i ?_|refine z_j ?_|refine s_a ?_|refine s_s ?_|refine s_n ?_|refine s_i ?_|refine s_f ?_|refine s_b ?_|refine s_d ?_|refine s_l1 ?_|refine s_l2 ?_|refine s_l3 ?_|refine s_l4 ?_|refine s_l5 ?_|refine s_l6 ?_|refine s_l7 ?_|refine s_l8 ?_|refine s_l9 ?_|refine s_g ?_|refine s_q ?_|refine s_e ?_|refine s_j ?_)
  refine o_call rfl rfl rfl (l1Below_ok hc4 (by omega)) ?_
  rintro _ w5 ⟨x5, rfl, hx50, hx51, hx52, hc5, hw5⟩
  have hx53 := hx52 (by omega)
  have hz5 := hw5.size
  replace hw := hw.trans hw5
  replace ho := ho.wrs hw5 (by omega)
  generalize gi ([2, 4, 10] : List Int) (i3 : Int) = mx at hm3 ⊢
  repeat (first|refine z_1 ?_|refine z_2 ?_|refine s_o ?_|refine z_3 ?_|refine z_4 ?_|refine z_5 ?_|refine z_6 ?_|refine z_7 ?_|refine z_8 ?_|refine z_9 ?_|refine z_a ?_|refine z_b ?_|refine z_d ?_|refine z_e ?_|refine z_f ?_|refine z_g ?_|refine z_h ?_|refine z_i ?_|refine z_j ?_|refine s_a ?_|refine s_s ?_|refine s_n ?_|refine s_i ?_|refine s_f ?_|refine s_b ?_|refine s_d ?_|refine s_l1 ?_|refine s_l2 ?_|refine s_l3 ?_|refine s_l4 ?_|refine s_l5 ?_|refine s_l6 ?_|refine s_l7 ?_|refine s_l8 ?_|refine s_l9 ?_|refine s_g ?_|refine s_q ?_|refine s_e ?_|refine s_j ?_)
  refine W_loop (S := Nat × Int × Value × List Itm) (fun s => [(0, .pointer (some ⟨b, 0, none⟩)), (5, s.2.2.1), (6, .int .i64 mx), (7, .int .i64 s.2.1), (8, .int .i64 (x5 - (s.1 : Int)))]) (fun s w' => Wrs w w' [b] ∧ Cur w' b ∧ ((s.1 : Int) ≤ x5 ∧ 0 ≤ s.2.1 ∧ s.2.1 ≤ 3 + 2 * (s.1 : Int) ∧ s.2.2.2.length = s.1 ∧ small s.2.2.2) ∧ ∃ fi, OwnF itemR w' w.heap.size 66 s.2.2.1 s.2.2.2 fi) (fun s => (x5 - (s.1 : Int)).toNat) (0, x4, _, []) ⟨rfl, rfl, rfl, rfl, find_int rfl (by dsimp only; omega), trivial⟩ ⟨hw, hc5, ⟨by dsimp only; omega, by dsimp only; omega, by dsimp only; omega, rfl, fun x hx => by cases hx⟩, [], ho⟩ ?_
  clear hw hc5 ho hs2 hc3 hc4 hc hw3 hw4 hw5
  rintro ⟨k, id, va, L⟩ wa ⟨hwa, hca, ⟨hkx, hid0, hid1, hLl, hsm⟩, fi, hoa⟩
  dsimp only at hkx hid0 hid1 hLl hsm hoa ⊢
  have hza := hwa.size
  repeat (first|refine z_1 ?_|refine z_2 ?_|refine s_o ?_|refine z_3 ?_|refine z_4 ?_|refine z_5 ?_|refine z_6 ?_|refine z_7 ?_|refine z_8 ?_|refine z_9 ?_|refine z_a ?_|refine z_b ?_|refine z_d ?_|refine z_e ?_|refine z_f ?_|refine z_g ?_|refine z_h ?_|refine z_i ?_|refine z_j ?_|refine s_a ?_|refine s_s ?_|refine s_n ?_|refine s_i ?_|refine s_f ?_|refine s_b ?_|refine s_d ?_|refine s_l1 ?_|refine s_l2 ?_|refine s_l3 ?_|refine s_l4 ?_|refine s_l5 ?_|refine s_l6 ?_|refine s_l7 ?_|refine s_l8 ?_|refine s_l9 ?_|refine s_g ?_|refine s_q ?_|refine s_e ?_|refine s_j ?_)
  refine W_cond rfl (fun hd => ?_) (fun hd => ?_)
  · have hkl : (k : Int) < x5 := by simp at hd; omega
    repeat (first|refine z_1 ?_|refine z_2 ?_|refine s_o ?_|refine z_3 ?_|refine z_4 ?_|refine z_5 ?_|refine z_6 ?_|refine z_7 ?_|refine z_8 ?_|refine z_9 ?_|refine z_a ?_|refine z_b ?_|refine z_d ?_|refine z_e ?_|refine z_f ?_|refine z_g ?_|refine z_h ?_|refine z_i ?_|refine z_j ?_|refine s_a ?_|refine s_s ?_|refine s_n ?_|refine s_i ?_|refine s_f ?_|refine s_b ?_|refine s_d ?_|refine s_l1 ?_|refine s_l2 ?_|refine s_l3 ?_|refine s_l4 ?_|refine s_l5 ?_|refine s_l6 ?_|refine s_l7 ?_|refine s_l8 ?_|refine s_l9 ?_|refine s_g ?_|refine s_q ?_|refine s_e ?_|refine s_j ?_)
    refine o_call rfl rfl rfl (l2Item_ok hca (id := id) hm3) ?_
    rintro _ w6 ⟨u6, xs6, rfl, ho6, hl6, hc6, hw6⟩
    obtain ⟨f6, hs6, hf6⟩ := ho6.sl (by decide)
    have hdm := hoa.fresh.dom
    have hdo := fun b hb => (hoa.lt (b := b) hb).2
    have hz6 := hw6.size
    replace hwa := hwa.trans hw6
    replace hoa := hoa.wrs hw6 (by omega)
    have o6 := hs6.oneCell
    repeat (first|refine z_1 ?_|refine z_2 ?_|refine s_o ?_|refine z_3 ?_|refine z_4 ?_|refine z_5 ?_|refine z_6 ?_|refine z_7 ?_|refine z_8 ?_|refine z_9 ?_|refine z_a ?_|refine z_b ?_|refine z_d ?_|refine z_e ?_|refine z_f ?_|refine z_g ?_|refine z_h ?_|refine z_i ?_|refine z_j ?_|refine s_a ?_|refine s_s ?_|refine s_n ?_|refine s_i ?_|refine s_f ?_|refine s_b ?_|refine s_d ?_|refine s_l1 ?_|refine s_l2 ?_|refine s_l3 ?_|refine s_l4 ?_|refine s_l5 ?_|refine s_l6 ?_|refine s_l7 ?_|refine s_l8 ?_|refine s_l9 ?_|refine s_g ?_|refine s_q ?_|refine s_e ?_|refine s_j ?_)
    refine o_buildSlice rfl rfl rfl rfl rfl (by simp [Value.cells]) (by omega) ?_
    intro b7 w7 hal7
    have hb7 : Blk w7 b7 66 [.int .i64 id, u6] := by simpa [Value.cells] using hal7.blk
    have hz7 := hal7.size
    replace hwa := hwa.keepR hal7.kp
    replace hoa := hoa.keep hal7.kp
    replace hs6 := hs6.keep hal7.kp
    replace hf6 := hf6.keep hal7.kp
    replace hc6 := hc6.keep hal7.kp
    repeat (first|refine z_1 ?_|refine z_2 ?_|refine s_o ?_|refine z_3 ?_|refine z_4 ?_|refine z_5 ?_|refine z_6 ?_|refine z_7 ?_|refine z_8 ?_|refine z_9 ?_|refine z_a ?_|refine z_b ?_|refine z_d ?_|refine z_e ?_|refine z_f ?_|refine z_g ?_|refine z_h ?_|refine z_i ?_|refine z_j ?_|refine s_a ?_|refine s_s ?_|refine s_n ?_|refine s_i ?_|refine s_f ?_|refine s_b ?_|refine s_d ?_|refine s_l1 ?_|refine s_l2 ?_|refine s_l3 ?_|refine s_l4 ?_|refine s_l5 ?_|refine s_l6 ?_|refine s_l7 ?_|refine s_l8 ?_|refine s_l9 ?_|refine s_g ?_|refine s_q ?_|refine s_e ?_|refine s_j ?_)
    refine o_appendF (R := itemR) (M := wa.heap.size) (gi := f6) rfl rfl rfl rfl rfl (by decide) hoa (Blk.src (xs := [(⟨id, xs6⟩ : Itm)]) hb7 (Rows.single (R := itemR) ⟨u6, rfl, hs6⟩)) rfl (hf6.mono (by omega)) hdm hdo (fun b hb => hf6.ge hb) (by simp only [List.length_cons, List.length_nil]; omega) (by simp only [List.length_cons, List.length_nil]; omega) (by omega) ?_
    intro v8 w8 ho8 hb8 hg8
    have hrow : ∀ c, va.ownBlock = some c → w.heap.size ≤ c := fun c hc => (hoa.lt hc).1
    replace hwa := hwa.grown hg8 hrow
    replace hc6 := hc6.grown hg8 (fun c hc => by have := hrow c hc; omega)
    repeat (first|refine z_1 ?_|refine z_2 ?_|refine s_o ?_|refine z_3 ?_|refine z_4 ?_|refine z_5 ?_|refine z_6 ?_|refine z_7 ?_|refine z_8 ?_|refine z_9 ?_|refine z_a ?_|refine z_b ?_|refine z_d ?_|refine z_e ?_|refine z_f ?_|refine z_g ?_|refine z_h ?_|refine z_i ?_|refine z_j ?_|refine s_a ?_|refine s_s ?_|refine s_n ?_|refine s_i ?_|refine s_f ?_|refine s_b ?_|refine s_d ?_|refine s_l1 ?_|refine s_l2 ?_|refine s_l3 ?_|refine s_l4 ?_|refine s_l5 ?_|refine s_l6 ?_|refine s_l7 ?_|refine s_l8 ?_|refine s_l9 ?_|refine s_g ?_|refine s_q ?_|refine s_e ?_|refine s_j ?_)
    refine o_call rfl rfl rfl (l1Below_ok hc6 (by omega)) ?_
    rintro _ w9 ⟨x9, rfl, hx90, hx91, hx92, hc9, hw9⟩
    have hx93 := hx92 (by omega)
    replace hwa := hwa.trans hw9
    replace ho8 := ho8.wrs hw9 (by omega)
    repeat (first|refine z_1 ?_|refine z_2 ?_|refine s_o ?_|refine z_3 ?_|refine z_4 ?_|refine z_5 ?_|refine z_6 ?_|refine z_7 ?_|refine z_8 ?_|refine z_9 ?_|refine z_a ?_|refine z_b ?_|refine z_d ?_|refine z_e ?_|refine z_f ?_|refine z_g ?_|refine z_h ?_|refine z_i ?_|refine z_j ?_|refine s_a ?_|refine s_s ?_|refine s_n ?_|refine s_i ?_|refine s_f ?_|refine s_b ?_|refine s_d ?_|refine s_l1 ?_|refine s_l2 ?_|refine s_l3 ?_|refine s_l4 ?_|refine s_l5 ?_|refine s_l6 ?_|refine s_l7 ?_|refine s_l8 ?_|refine s_l9 ?_|refine s_g ?_|refine s_q ?_|refine s_e ?_|refine s_j ?_)
    exact ⟨(k + 1, id + 1 + x9, v8, L ++ [⟨id, xs6⟩]), ⟨rfl, rfl, rfl, rfl, find_int rfl (by dsimp only; omega), trivial⟩, ⟨hwa, hc9, ⟨by dsimp only; omega, by dsimp only; omega, by dsimp only; omega, by simp [hLl], small_snoc hsm (by show xs6.length ≤ 4; omega)⟩, _, ho8⟩, by dsimp only; omega⟩
  · repeat (first|refine z_1 ?_|refine z_2 ?_|refine s_o ?_|refine z_3 ?_|refine z_4 ?_|refine z_5 ?_|refine z_6 ?_|refine z_7 ?_|refine z_8 ?_|refine z_9 ?_|refine z_a ?_|refine z_b ?_|refine z_d ?_|refine z_e ?_|refine z_f ?_|refine z_g ?_|refine z_h ?_|refine z_i ?_|refine z_j ?_|refine s_a ?_|refine s_s ?_|refine s_n ?_|refine s_i ?_|refine s_f ?_|refine s_b ?_|refine s_d ?_|refine s_l1 ?_|refine s_l2 ?_|refine s_l3 ?_|refine s_l4 ?_|refine s_l5 ?_|refine s_l6 ?_|refine s_l7 ?_|refine s_l8 ?_|refine s_l9 ?_|refine s_g ?_|refine s_q ?_|refine s_e ?_|refine s_j ?_)
    exact ret1 rfl rfl ⟨L, fi, hoa, by omega, hsm, hca, hwa⟩
end Go.E

/-
  Contracts: any wishes drawn from a cursor, valid ones or not. Conditions: as stated.
-/
import Derived.Test.YtpdhdnmcafjadaaDg
set_option linter.unusedVariables false
set_option linter.unusedSimpArgs false
namespace Go.E
open Go Go.RowKit Go.Proofs
attribute [local irreducible] W WL WD WE thenE inE retQ PureOp Keep Cell Cells Blk Sl Rows Own Src Fresh
attribute [local irreducible] Cur

set_option maxHeartbeats 2000000 in
theorem l4Any_ok {w : World} {b : Nat} (hc : Cur w b) :
    Run Try.prog 156 [.pointer (some ⟨b, 0, none⟩)] w (fun r w' => ∃ (x : Wsh) (u v : Value), r = .agg #[.int .i64 x.kind, .int .i64 x.field, .int .i64 x.value, u, v] ∧ OwnF intR w' w.heap.size 3 u x.list [] ∧ OwnF pairR w' w.heap.size 124 v x.pairs [] ∧ (∀ c, u.ownBlock = some c → v.ownBlock ≠ some c) ∧ totW x ≤ 1001 ∧ Cur w' b ∧ Wrs w w' [b]) := by
  have hbl := hc.lt
  refine Run_intro Try.func156 (by unfold CallOk; kernel_rfl) rfl Try.ntmps156 (Nat.le_of_ble_eq_true rfl) ?_
  simp only [penv, Nat.reduceAdd, Nat.zero_add]
  repeat (first|refine z_1 ?_|refine z_2 ?_|refine s_o ?_|refine z_3 ?_|refine z_4 ?_|refine z_5 ?_|refine z_6 ?_|refine z_7 ?_|refine z_8 ?_|refine z_9 ?_|refine z_a ?_|refine z_b ?_|refine z_d ?_|refine z_e ?_|refine z_f ?_|refine z_g ?_|refine z_h ?_|refine z_i ?_|refine z_j ?_|refine s_a ?_|refine s_s ?_|refine s_n ?_|refine s_i ?_|refine s_f ?_|refine s_b ?_|refine s_d ?_|refine s_l1 ?_|refine s_l2 ?_|refine s_l3 ?_|refine s_l4 ?_|refine s_l5 ?_|refine s_l6 ?_|refine s_l7 ?_|refine s_l8 ?_|refine s_l9 ?_|refine s_g ?_|refine s_q ?_|refine s_e ?_|refine s_j ?_)
  refine o_alloc rfl rfl ?_
  intro b2 w1 hal2
  have hb2 := hal2.blk
  have he2 := hal2.b_eq
  have hz2 := hal2.size
  have hw : Wrs w w1 [b] := hal2.kp.wrs
  replace hc := hc.keep hal2.kp
  repeat (first|refine z_1 ?_|refine z_2 ?_|refine s_o ?_|refine z_3 ?_|refine z_4 ?_|refine z_5 ?_|refine z_6 ?_|refine z_7 ?_|refine z_8 ?_|refine z_9 ?_|refine z_a ?_|refine z_b ?_|refine z_d ?_|refine z_e ?_|refine z_f ?_|refine z_g ?_|refine z_h ?_|refine z_i ?_|refine z_j ?_|refine s_a ?_|refine s_s ?_|refine s_n ?_|refine s_i ?_|refine s_f ?_|refine s_b ?_|refine s_d ?_|refine s_l1 ?_|refine s_l2 ?_|refine s_l3 ?_|refine s_l4 ?_|refine s_l5 ?_|refine s_l6 ?_|refine s_l7 ?_|refine s_l8 ?_|refine s_l9 ?_|refine s_g ?_|refine s_q ?_|refine s_e ?_|refine s_j ?_)
  refine o_call rfl rfl rfl (l4Wish_ok hc) ?_
  rintro _ w3 ⟨⟨kd, fd, vl, ls, ps⟩, u, v, rfl, hoL, hoP, hdj, htw, hc3, hw3⟩
  dsimp only at hoL hoP
  have hz33 := hw3.size
  replace hw := hw.trans hw3
  replace hb2 := hb2.wrs hw3 (by simp; omega)
  obtain ⟨Au, nu, cu, rfl, hnu, _⟩ := hoL.split
  obtain ⟨Ap, np, cp, rfl, hnp, _⟩ := hoP.split
  have hownL : ∀ c, (Value.slice Au nu cu).ownBlock = some c → c < w3.heap.size := fun c hc => (hoL.lt hc).2
  have hownP : ∀ c, (Value.slice Ap np cp).ownBlock = some c → c < w3.heap.size := fun c hc => (hoP.lt hc).2
  repeat (first|refine z_1 ?_|refine z_2 ?_|refine s_o ?_|refine z_3 ?_|refine z_4 ?_|refine z_5 ?_|refine z_6 ?_|refine z_7 ?_|refine z_8 ?_|refine z_9 ?_|refine z_a ?_|refine z_b ?_|refine z_d ?_|refine z_e ?_|refine z_f ?_|refine z_g ?_|refine z_h ?_|refine z_i ?_|refine z_j ?_|refine s_a ?_|refine s_s ?_|refine s_n ?_|refine s_i ?_|refine s_f ?_|refine s_b ?_|refine s_d ?_|refine s_l1 ?_|refine s_l2 ?_|refine s_l3 ?_|refine s_l4 ?_|refine s_l5 ?_|refine s_l6 ?_|refine s_l7 ?_|refine s_l8 ?_|refine s_l9 ?_|refine s_g ?_|refine s_q ?_|refine s_e ?_|refine s_j ?_)
  refine o_alloc rfl rfl ?_
  intro b3 w4 hal3
  have hb3 := hal3.blk
  have he3 := hal3.b_eq
  have hz3 := hal3.size
  replace hw := hw.keepR hal3.kp
  replace hc3 := hc3.keep hal3.kp
  replace hb2 := hb2.keep hal3.kp
  replace hoL := hoL.keep hal3.kp
  replace hoP := hoP.keep hal3.kp
  repeat (first|refine z_1 ?_|refine z_2 ?_|refine s_o ?_|refine z_3 ?_|refine z_4 ?_|refine z_5 ?_|refine z_6 ?_|refine z_7 ?_|refine z_8 ?_|refine z_9 ?_|refine z_a ?_|refine z_b ?_|refine z_d ?_|refine z_e ?_|refine z_f ?_|refine z_g ?_|refine z_h ?_|refine z_i ?_|refine z_j ?_|refine s_a ?_|refine s_s ?_|refine s_n ?_|refine s_i ?_|refine s_f ?_|refine s_b ?_|refine s_d ?_|refine s_l1 ?_|refine s_l2 ?_|refine s_l3 ?_|refine s_l4 ?_|refine s_l5 ?_|refine s_l6 ?_|refine s_l7 ?_|refine s_l8 ?_|refine s_l9 ?_|refine s_g ?_|refine s_q ?_|refine s_e ?_|refine s_j ?_)
  refine o_storeS (b := b3) (off := 0) rfl rfl rfl rfl (by repeat (first | exact ones_nil | refine ones_cons (by first | rfl | assumption) ?_)) rfl hb3 (by simp) ?_
  intro w5 hu5
  have hb3' : Blk w5 b3 83 [.int .i64 kd, .int .i64 fd, .int .i64 vl, .slice Au nu cu, .slice Ap np cp] := hu5.blk
  have hz5 := hu5.size
  replace hw := hw.updN hu5 (by omega)
  replace hc3 := hc3.upd hu5 (by omega)
  replace hb2 := hb2.upd hu5 (by omega)
  replace hoL := hoL.upd hu5 (fun e => by have := hownL _ e; omega) (by simp)
  replace hoP := hoP.upd hu5 (fun e => by have := hownP _ e; omega) (by simp)
  clear hu5 hb3
  repeat (first|refine z_1 ?_|refine z_2 ?_|refine s_o ?_|refine z_3 ?_|refine z_4 ?_|refine z_5 ?_|refine z_6 ?_|refine z_7 ?_|refine z_8 ?_|refine z_9 ?_|refine z_a ?_|refine z_b ?_|refine z_d ?_|refine z_e ?_|refine z_f ?_|refine z_g ?_|refine z_h ?_|refine z_i ?_|refine z_j ?_|refine s_a ?_|refine s_s ?_|refine s_n ?_|refine s_i ?_|refine s_f ?_|refine s_b ?_|refine s_d ?_|refine s_l1 ?_|refine s_l2 ?_|refine s_l3 ?_|refine s_l4 ?_|refine s_l5 ?_|refine s_l6 ?_|refine s_l7 ?_|refine s_l8 ?_|refine s_l9 ?_|refine s_g ?_|refine s_q ?_|refine s_e ?_|refine s_j ?_)
  refine o_call rfl rfl rfl (l1Below_ok hc3 (by omega)) ?_
  rintro _ w6 ⟨q, rfl, hq0, hq1, _, hc6, hw6⟩
  have hz6 := hw6.size
  replace hw := hw.trans hw6
  replace hb2 := hb2.wrs hw6 (by simp; omega)
  replace hb3' := hb3'.wrs hw6 (by simp; omega)
  replace hoL := hoL.wrs hw6 (by omega)
  replace hoP := hoP.wrs hw6 (by omega)
  clear hc3
  have hc3 := hc6
  clear hc6
  repeat (first|refine z_1 ?_|refine z_2 ?_|refine s_o ?_|refine z_3 ?_|refine z_4 ?_|refine z_5 ?_|refine z_6 ?_|refine z_7 ?_|refine z_8 ?_|refine z_9 ?_|refine z_a ?_|refine z_b ?_|refine z_d ?_|refine z_e ?_|refine z_f ?_|refine z_g ?_|refine z_h ?_|refine z_i ?_|refine z_j ?_|refine s_a ?_|refine s_s ?_|refine s_n ?_|refine s_i ?_|refine s_f ?_|refine s_b ?_|refine s_d ?_|refine s_l1 ?_|refine s_l2 ?_|refine s_l3 ?_|refine s_l4 ?_|refine s_l5 ?_|refine s_l6 ?_|refine s_l7 ?_|refine s_l8 ?_|refine s_l9 ?_|refine s_g ?_|refine s_q ?_|refine s_e ?_|refine s_j ?_)
  refine W_cond rfl (fun h0 => ?_) (fun h0 => ?_)
  · repeat (first|refine z_1 ?_|refine z_2 ?_|refine s_o ?_|refine z_3 ?_|refine z_4 ?_|refine z_5 ?_|refine z_6 ?_|refine z_7 ?_|refine z_8 ?_|refine z_9 ?_|refine z_a ?_|refine z_b ?_|refine z_d ?_|refine z_e ?_|refine z_f ?_|refine z_g ?_|refine z_h ?_|refine z_i ?_|refine z_j ?_|refine s_a ?_|refine s_s ?_|refine s_n ?_|refine s_i ?_|refine s_f ?_|refine s_b ?_|refine s_d ?_|refine s_l1 ?_|refine s_l2 ?_|refine s_l3 ?_|refine s_l4 ?_|refine s_l5 ?_|refine s_l6 ?_|refine s_l7 ?_|refine s_l8 ?_|refine s_l9 ?_|refine s_g ?_|refine s_q ?_|refine s_e ?_|refine s_j ?_)
    refine o_call rfl rfl rfl (l1Below_ok hc3 (by omega)) ?_
    rintro _ w8 ⟨y, rfl, hy0, hy1, _, hc8, hw8⟩
    have hz8 := hw8.size
    replace hw := hw.trans hw8
    replace hb2 := hb2.wrs hw8 (by simp; omega)
    replace hb3' := hb3'.wrs hw8 (by simp; omega)
    replace hoL := hoL.wrs hw8 (by omega)
    replace hoP := hoP.wrs hw8 (by omega)
    repeat (first|refine z_1 ?_|refine z_2 ?_|refine s_o ?_|refine z_3 ?_|refine z_4 ?_|refine z_5 ?_|refine z_6 ?_|refine z_7 ?_|refine z_8 ?_|refine z_9 ?_|refine z_a ?_|refine z_b ?_|refine z_d ?_|refine z_e ?_|refine z_f ?_|refine z_g ?_|refine z_h ?_|refine z_i ?_|refine z_j ?_|refine s_a ?_|refine s_s ?_|refine s_n ?_|refine s_i ?_|refine s_f ?_|refine s_b ?_|refine s_d ?_|refine s_l1 ?_|refine s_l2 ?_|refine s_l3 ?_|refine s_l4 ?_|refine s_l5 ?_|refine s_l6 ?_|refine s_l7 ?_|refine s_l8 ?_|refine s_l9 ?_|refine s_g ?_|refine s_q ?_|refine s_e ?_|refine s_j ?_)
    refine o_store1 (b := b3) (off := 0) rfl rfl rfl rfl rfl hb3' (by simp) ?_
    intro w9 hu9
    have hb9 : Blk w9 b3 83 [.int .i64 (y - 1), .int .i64 fd, .int .i64 vl, .slice Au nu cu, .slice Ap np cp] := hu9.blk
    have hz9 := hu9.size
    replace hw := hw.updN hu9 (by omega)
    clear hc3
    have hc3 := hc8.upd hu9 (by omega)
    replace hb2 := hb2.upd hu9 (by omega)
    replace hoL := hoL.upd hu9 (fun e => by have := hownL _ e; omega) (by simp)
    replace hoP := hoP.upd hu9 (fun e => by have := hownP _ e; omega) (by simp)
    clear hu9 hb3'
    repeat (first|refine z_1 ?_|refine z_2 ?_|refine s_o ?_|refine z_3 ?_|refine z_4 ?_|refine z_5 ?_|refine z_6 ?_|refine z_7 ?_|refine z_8 ?_|refine z_9 ?_|refine z_a ?_|refine z_b ?_|refine z_d ?_|refine z_e ?_|refine z_f ?_|refine z_g ?_|refine z_h ?_|refine z_i ?_|refine z_j ?_|refine s_a ?_|refine s_s ?_|refine s_n ?_|refine s_i ?_|refine s_f ?_|refine s_b ?_|refine s_d ?_|refine s_l1 ?_|refine s_l2 ?_|refine s_l3 ?_|refine s_l4 ?_|refine s_l5 ?_|refine s_l6 ?_|refine s_l7 ?_|refine s_l8 ?_|refine s_l9 ?_|refine s_g ?_|refine s_q ?_|refine s_e ?_|refine s_j ?_)
    refine o_storeS (b := b2) (off := 0) rfl rfl rfl rfl (by repeat (first | exact ones_nil | refine ones_cons (by first | rfl | assumption) ?_)) rfl hb2 (by simp) ?_
    intro wZ huZ
    have hbZ : Blk wZ b2 83 [.int .i64 (y - 1), .int .i64 fd, .int .i64 vl, .slice Au nu cu, .slice Ap np cp] := huZ.blk
    repeat (first|refine z_1 ?_|refine z_2 ?_|refine s_o ?_|refine z_3 ?_|refine z_4 ?_|refine z_5 ?_|refine z_6 ?_|refine z_7 ?_|refine z_8 ?_|refine z_9 ?_|refine z_a ?_|refine z_b ?_|refine z_d ?_|refine z_e ?_|refine z_f ?_|refine z_g ?_|refine z_h ?_|refine z_i ?_|refine z_j ?_|refine s_a ?_|refine s_s ?_|refine s_n ?_|refine s_i ?_|refine s_f ?_|refine s_b ?_|refine s_d ?_|refine s_l1 ?_|refine s_l2 ?_|refine s_l3 ?_|refine s_l4 ?_|refine s_l5 ?_|refine s_l6 ?_|refine s_l7 ?_|refine s_l8 ?_|refine s_l9 ?_|refine s_g ?_|refine s_q ?_|refine s_e ?_|refine s_j ?_)
    exact retc rfl rfl hbZ.cells rfl ⟨⟨(y - 1), fd, vl, ls, ps⟩, .slice Au nu cu, .slice Ap np cp, rfl, (hoL.upd huZ (fun e => by have := (hoL.lt e).1; omega) (by simp)).below (by omega), (hoP.upd huZ (fun e => by have := (hoP.lt e).1; omega) (by simp)).below (by omega), hdj, by simp only [totW] at htw ⊢; omega, hc3.upd huZ (by omega), hw.updN huZ (by omega)⟩
  repeat (first|refine z_1 ?_|refine z_2 ?_|refine s_o ?_|refine z_3 ?_|refine z_4 ?_|refine z_5 ?_|refine z_6 ?_|refine z_7 ?_|refine z_8 ?_|refine z_9 ?_|refine z_a ?_|refine z_b ?_|refine z_d ?_|refine z_e ?_|refine z_f ?_|refine z_g ?_|refine z_h ?_|refine z_i ?_|refine z_j ?_|refine s_a ?_|refine s_s ?_|refine s_n ?_|refine s_i ?_|refine s_f ?_|refine s_b ?_|refine s_d ?_|refine s_l1 ?_|refine s_l2 ?_|refine s_l3 ?_|refine s_l4 ?_|refine s_l5 ?_|refine s_l6 ?_|refine s_l7 ?_|refine s_l8 ?_|refine s_l9 ?_|refine s_g ?_|refine s_q ?_|refine s_e ?_|refine s_j ?_)
  refine W_cond rfl (fun h1 => ?_) (fun h1 => ?_)
  · repeat (first|refine z_1 ?_|refine z_2 ?_|refine s_o ?_|refine z_3 ?_|refine z_4 ?_|refine z_5 ?_|refine z_6 ?_|refine z_7 ?_|refine z_8 ?_|refine z_9 ?_|refine z_a ?_|refine z_b ?_|refine z_d ?_|refine z_e ?_|refine z_f ?_|refine z_g ?_|refine z_h ?_|refine z_i ?_|refine z_j ?_|refine s_a ?_|refine s_s ?_|refine s_n ?_|refine s_i ?_|refine s_f ?_|refine s_b ?_|refine s_d ?_|refine s_l1 ?_|refine s_l2 ?_|refine s_l3 ?_|refine s_l4 ?_|refine s_l5 ?_|refine s_l6 ?_|refine s_l7 ?_|refine s_l8 ?_|refine s_l9 ?_|refine s_g ?_|refine s_q ?_|refine s_e ?_|refine s_j ?_)
    refine o_buildSlice rfl rfl rfl rfl rfl (by simp [Value.cells]) (by omega) ?_
    intro b7 w7 hal7
    have he7 := hal7.b_eq
    have hz7 := hal7.size
    have hs7 : Sl intR w7 (.slice (some ⟨b7, 0, none⟩) 2 2) [-1, 3] [b7] := Sl.ofInts (xs := [-1, 3]) hal7.blk (fun i hi => by
      rcases (show i = 0 ∨ i = 1 by simp at hi; omega) with rfl | rfl <;> rfl) rfl (Nat.le_refl _)
    replace hw := hw.keepR hal7.kp
    replace hc3 := hc3.keep hal7.kp
    replace hb2 := hb2.keep hal7.kp
    replace hb3' := hb3'.keep hal7.kp
    replace hoL := hoL.keep hal7.kp
    replace hoP := hoP.keep hal7.kp
    repeat (first|refine z_1 ?_|refine z_2 ?_|refine s_o ?_|refine z_3 ?_|refine z_4 ?_|refine z_5 ?_|refine z_6 ?_|refine z_7 ?_|refine z_8 ?_|refine z_9 ?_|refine z_a ?_|refine z_b ?_|refine z_d ?_|refine z_e ?_|refine z_f ?_|refine z_g ?_|refine z_h ?_|refine z_i ?_|refine z_j ?_|refine s_a ?_|refine s_s ?_|refine s_n ?_|refine s_i ?_|refine s_f ?_|refine s_b ?_|refine s_d ?_|refine s_l1 ?_|refine s_l2 ?_|refine s_l3 ?_|refine s_l4 ?_|refine s_l5 ?_|refine s_l6 ?_|refine s_l7 ?_|refine s_l8 ?_|refine s_l9 ?_|refine s_g ?_|refine s_q ?_|refine s_e ?_|refine s_j ?_)
    refine o_call rfl rfl rfl (l1PickInt_ok hc3 hs7 (by simp; omega) (by simp) (by simp)) ?_
    rintro _ w8 ⟨i8, hi8, rfl, hc8, hw8⟩
    have hz8 := hw8.size
    replace hw := hw.trans hw8
    replace hb2 := hb2.wrs hw8 (by simp; omega)
    replace hb3' := hb3'.wrs hw8 (by simp; omega)
    replace hoL := hoL.wrs hw8 (by omega)
    replace hoP := hoP.wrs hw8 (by omega)
    generalize gi ([-1, 3] : List Int) (i8 : Int) = f8 at *
    repeat (first|refine z_1 ?_|refine z_2 ?_|refine s_o ?_|refine z_3 ?_|refine z_4 ?_|refine z_5 ?_|refine z_6 ?_|refine z_7 ?_|refine z_8 ?_|refine z_9 ?_|refine z_a ?_|refine z_b ?_|refine z_d ?_|refine z_e ?_|refine z_f ?_|refine z_g ?_|refine z_h ?_|refine z_i ?_|refine z_j ?_|refine s_a ?_|refine s_s ?_|refine s_n ?_|refine s_i ?_|refine s_f ?_|refine s_b ?_|refine s_d ?_|refine s_l1 ?_|refine s_l2 ?_|refine s_l3 ?_|refine s_l4 ?_|refine s_l5 ?_|refine s_l6 ?_|refine s_l7 ?_|refine s_l8 ?_|refine s_l9 ?_|refine s_g ?_|refine s_q ?_|refine s_e ?_|refine s_j ?_)
    refine o_store1 (b := b3) (off := 1) rfl rfl rfl rfl rfl hb3' (by simp) ?_
    intro w9 hu9
    have hb9 : Blk w9 b3 83 [.int .i64 kd, .int .i64 f8, .int .i64 vl, .slice Au nu cu, .slice Ap np cp] := hu9.blk
    have hz9 := hu9.size
    replace hw := hw.updN hu9 (by omega)
    clear hc3
    have hc3 := hc8.upd hu9 (by omega)
    replace hb2 := hb2.upd hu9 (by omega)
    replace hoL := hoL.upd hu9 (fun e => by have := hownL _ e; omega) (by simp)
    replace hoP := hoP.upd hu9 (fun e => by have := hownP _ e; omega) (by simp)
    clear hu9 hb3'
    repeat (first|refine z_1 ?_|refine z_2 ?_|refine s_o ?_|refine z_3 ?_|refine z_4 ?_|refine z_5 ?_|refine z_6 ?_|refine z_7 ?_|refine z_8 ?_|refine z_9 ?_|refine z_a ?_|refine z_b ?_|refine z_d ?_|refine z_e ?_|refine z_f ?_|refine z_g ?_|refine z_h ?_|refine z_i ?_|refine z_j ?_|refine s_a ?_|refine s_s ?_|refine s_n ?_|refine s_i ?_|refine s_f ?_|refine s_b ?_|refine s_d ?_|refine s_l1 ?_|refine s_l2 ?_|refine s_l3 ?_|refine s_l4 ?_|refine s_l5 ?_|refine s_l6 ?_|refine s_l7 ?_|refine s_l8 ?_|refine s_l9 ?_|refine s_g ?_|refine s_q ?_|refine s_e ?_|refine s_j ?_)
    refine o_storeS (b := b2) (off := 0) rfl rfl rfl rfl (by repeat (first | exact ones_nil | refine ones_cons (by first | rfl | assumption) ?_)) rfl hb2 (by simp) ?_
    intro wZ huZ
    have hbZ : Blk wZ b2 83 [.int .i64 kd, .int .i64 f8, .int .i64 vl, .slice Au nu cu, .slice Ap np cp] := huZ.blk
    repeat (first|refine z_1 ?_|refine z_2 ?_|refine s_o ?_|refine z_3 ?_|refine z_4 ?_|refine z_5 ?_|refine z_6 ?_|refine z_7 ?_|refine z_8 ?_|refine z_9 ?_|refine z_a ?_|refine z_b ?_|refine z_d ?_|refine z_e ?_|refine z_f ?_|refine z_g ?_|refine z_h ?_|refine z_i ?_|refine z_j ?_|refine s_a ?_|refine s_s ?_|refine s_n ?_|refine s_i ?_|refine s_f ?_|refine s_b ?_|refine s_d ?_|refine s_l1 ?_|refine s_l2 ?_|refine s_l3 ?_|refine s_l4 ?_|refine s_l5 ?_|refine s_l6 ?_|refine s_l7 ?_|refine s_l8 ?_|refine s_l9 ?_|refine s_g ?_|refine s_q ?_|refine s_e ?_|refine s_j ?_)
    exact retc rfl rfl hbZ.cells rfl ⟨⟨kd, f8, vl, ls, ps⟩, .slice Au nu cu, .slice Ap np cp, rfl, (hoL.upd huZ (fun e => by have := (hoL.lt e).1; omega) (by simp)).below (by omega), (hoP.upd huZ (fun e => by have := (hoP.lt e).1; omega) (by simp)).below (by omega), hdj, by simp only [totW] at htw ⊢; omega, hc3.upd huZ (by omega), hw.updN huZ (by omega)⟩
  repeat (first|refine z_1 ?_|refine z_2 ?_|refine s_o ?_|refine z_3 ?_|refine z_4 ?_|refine z_5 ?_|refine z_6 ?_|refine z_7 ?_|refine z_8 ?_|refine z_9 ?_|refine z_a ?_|refine z_b ?_|refine z_d ?_|refine z_e ?_|refine z_f ?_|refine z_g ?_|refine z_h ?_|refine z_i ?_|refine z_j ?_|refine s_a ?_|refine s_s ?_|refine s_n ?_|refine s_i ?_|refine s_f ?_|refine s_b ?_|refine s_d ?_|refine s_l1 ?_|refine s_l2 ?_|refine s_l3 ?_|refine s_l4 ?_|refine s_l5 ?_|refine s_l6 ?_|refine s_l7 ?_|refine s_l8 ?_|refine s_l9 ?_|refine s_g ?_|refine s_q ?_|refine s_e ?_|refine s_j ?_)
  refine W_cond rfl (fun h2 => ?_) (fun h2 => ?_)
  · repeat (first|refine z_1 ?_|refine z_2 ?_|refine s_o ?_|refine z_3 ?_|refine z_4 ?_|refine z_5 ?_|refine z_6 ?_|refine z_7 ?_|refine z_8 ?_|refine z_9 ?_|refine z_a ?_|refine z_b ?_|refine z_d ?_|refine z_e ?_|refine z_f ?_|refine z_g ?_|refine z_h ?_|refine z_i ?_|refine z_j ?_|refine s_a ?_|refine s_s ?_|refine s_n ?_|refine s_i ?_|refine s_f ?_|refine s_b ?_|refine s_d ?_|refine s_l1 ?_|refine s_l2 ?_|refine s_l3 ?_|refine s_l4 ?_|refine s_l5 ?_|refine s_l6 ?_|refine s_l7 ?_|refine s_l8 ?_|refine s_l9 ?_|refine s_g ?_|refine s_q ?_|refine s_e ?_|refine s_j ?_)
    refine o_buildSlice rfl rfl rfl rfl rfl (by simp [Value.cells]) (by omega) ?_
    intro b7 w7 hal7
    have he7 := hal7.b_eq
    have hz7 := hal7.size
    have hs7 : Sl intR w7 (.slice (some ⟨b7, 0, none⟩) 3 3) [-1, 9, 10] [b7] := Sl.ofInts (xs := [-1, 9, 10]) hal7.blk (fun i hi => by
      rcases (show i = 0 ∨ i = 1 ∨ i = 2 by simp at hi; omega) with rfl | rfl | rfl <;> rfl) rfl (Nat.le_refl _)
    replace hw := hw.keepR hal7.kp
    replace hc3 := hc3.keep hal7.kp
    replace hb2 := hb2.keep hal7.kp
    replace hb3' := hb3'.keep hal7.kp
    replace hoL := hoL.keep hal7.kp
    replace hoP := hoP.keep hal7.kp
    repeat (first|refine z_1 ?_|refine z_2 ?_|refine s_o ?_|refine z_3 ?_|refine z_4 ?_|refine z_5 ?_|refine z_6 ?_|refine z_7 ?_|refine z_8 ?_|refine z_9 ?_|refine z_a ?_|refine z_b ?_|refine z_d ?_|refine z_e ?_|refine z_f ?_|refine z_g ?_|refine z_h ?_|refine z_i ?_|refine z_j ?_|refine s_a ?_|refine s_s ?_|refine s_n ?_|refine s_i ?_|refine s_f ?_|refine s_b ?_|refine s_d ?_|refine s_l1 ?_|refine s_l2 ?_|refine s_l3 ?_|refine s_l4 ?_|refine s_l5 ?_|refine s_l6 ?_|refine s_l7 ?_|refine s_l8 ?_|refine s_l9 ?_|refine s_g ?_|refine s_q ?_|refine s_e ?_|refine s_j ?_)
    refine o_call rfl rfl rfl (l1PickInt_ok hc3 hs7 (by simp; omega) (by simp) (by simp)) ?_
    rintro _ w8 ⟨i8, hi8, rfl, hc8, hw8⟩
    have hz8 := hw8.size
    replace hw := hw.trans hw8
    replace hb2 := hb2.wrs hw8 (by simp; omega)
    replace hb3' := hb3'.wrs hw8 (by simp; omega)
    replace hoL := hoL.wrs hw8 (by omega)
    replace hoP := hoP.wrs hw8 (by omega)
    generalize gi ([-1, 9, 10] : List Int) (i8 : Int) = v8 at *
    repeat (first|refine z_1 ?_|refine z_2 ?_|refine s_o ?_|refine z_3 ?_|refine z_4 ?_|refine z_5 ?_|refine z_6 ?_|refine z_7 ?_|refine z_8 ?_|refine z_9 ?_|refine z_a ?_|refine z_b ?_|refine z_d ?_|refine z_e ?_|refine z_f ?_|refine z_g ?_|refine z_h ?_|refine z_i ?_|refine z_j ?_|refine s_a ?_|refine s_s ?_|refine s_n ?_|refine s_i ?_|refine s_f ?_|refine s_b ?_|refine s_d ?_|refine s_l1 ?_|refine s_l2 ?_|refine s_l3 ?_|refine s_l4 ?_|refine s_l5 ?_|refine s_l6 ?_|refine s_l7 ?_|refine s_l8 ?_|refine s_l9 ?_|refine s_g ?_|refine s_q ?_|refine s_e ?_|refine s_j ?_)
    refine o_store1 (b := b3) (off := 2) rfl rfl rfl rfl rfl hb3' (by simp) ?_
    intro w9 hu9
    have hb9 : Blk w9 b3 83 [.int .i64 kd, .int .i64 fd, .int .i64 v8, .slice Au nu cu, .slice Ap np cp] := hu9.blk
    have hz9 := hu9.size
    replace hw := hw.updN hu9 (by omega)
    clear hc3
    have hc3 := hc8.upd hu9 (by omega)
    replace hb2 := hb2.upd hu9 (by omega)
    replace hoL := hoL.upd hu9 (fun e => by have := hownL _ e; omega) (by simp)
    replace hoP := hoP.upd hu9 (fun e => by have := hownP _ e; omega) (by simp)
    clear hu9 hb3'
    repeat (first|refine z_1 ?_|refine z_2 ?_|refine s_o ?_|refine z_3 ?_|refine z_4 ?_|refine z_5 ?_|refine z_6 ?_|refine z_7 ?_|refine z_8 ?_|refine z_9 ?_|refine z_a ?_|refine z_b ?_|refine z_d ?_|refine z_e ?_|refine z_f ?_|refine z_g ?_|refine z_h ?_|refine z_i ?_|refine z_j ?_|refine s_a ?_|refine s_s ?_|refine s_n ?_|refine s_i ?_|refine s_f ?_|refine s_b ?_|refine s_d ?_|refine s_l1 ?_|refine s_l2 ?_|refine s_l3 ?_|refine s_l4 ?_|refine s_l5 ?_|refine s_l6 ?_|refine s_l7 ?_|refine s_l8 ?_|refine s_l9 ?_|refine s_g ?_|refine s_q ?_|refine s_e ?_|refine s_j ?_)
    refine o_storeS (b := b2) (off := 0) rfl rfl rfl rfl (by repeat (first | exact ones_nil | refine ones_cons (by first | rfl | assumption) ?_)) rfl hb2 (by simp) ?_
    intro wZ huZ
    have hbZ : Blk wZ b2 83 [.int .i64 kd, .int .i64 fd, .int .i64 v8, .slice Au nu cu, .slice Ap np cp] := huZ.blk
    repeat (first|refine z_1 ?_|refine z_2 ?_|refine s_o ?_|refine z_3 ?_|refine z_4 ?_|refine z_5 ?_|refine z_6 ?_|refine z_7 ?_|refine z_8 ?_|refine z_9 ?_|refine z_a ?_|refine z_b ?_|refine z_d ?_|refine z_e ?_|refine z_f ?_|refine z_g ?_|refine z_h ?_|refine z_i ?_|refine z_j ?_|refine s_a ?_|refine s_s ?_|refine s_n ?_|refine s_i ?_|refine s_f ?_|refine s_b ?_|refine s_d ?_|refine s_l1 ?_|refine s_l2 ?_|refine s_l3 ?_|refine s_l4 ?_|refine s_l5 ?_|refine s_l6 ?_|refine s_l7 ?_|refine s_l8 ?_|refine s_l9 ?_|refine s_g ?_|refine s_q ?_|refine s_e ?_|refine s_j ?_)
    exact retc rfl rfl hbZ.cells rfl ⟨⟨kd, fd, v8, ls, ps⟩, .slice Au nu cu, .slice Ap np cp, rfl, (hoL.upd huZ (fun e => by have := (hoL.lt e).1; omega) (by simp)).below (by omega), (hoP.upd huZ (fun e => by have := (hoP.lt e).1; omega) (by simp)).below (by omega), hdj, by simp only [totW] at htw ⊢; omega, hc3.upd huZ (by omega), hw.updN huZ (by omega)⟩
  repeat (first|refine z_1 ?_|refine z_2 ?_|refine s_o ?_|refine z_3 ?_|refine z_4 ?_|refine z_5 ?_|refine z_6 ?_|refine z_7 ?_|refine z_8 ?_|refine z_9 ?_|refine z_a ?_|refine z_b ?_|refine z_d ?_|refine z_e ?_|refine z_f ?_|refine z_g ?_|refine z_h ?_|refine z_i ?_|refine z_j ?_|refine s_a ?_|refine s_s ?_|refine s_n ?_|refine s_i ?_|refine s_f ?_|refine s_b ?_|refine s_d ?_|refine s_l1 ?_|refine s_l2 ?_|refine s_l3 ?_|refine s_l4 ?_|refine s_l5 ?_|refine s_l6 ?_|refine s_l7 ?_|refine s_l8 ?_|refine s_l9 ?_|refine s_g ?_|refine s_q ?_|refine s_e ?_|refine s_j ?_)
  refine W_cond rfl (fun h3 => ?_) (fun h3 => ?_)
  · repeat (first|refine z_1 ?_|refine z_2 ?_|refine s_o ?_|refine z_3 ?_|refine z_4 ?_|refine z_5 ?_|refine z_6 ?_|refine z_7 ?_|refine z_8 ?_|refine z_9 ?_|refine z_a ?_|refine z_b ?_|refine z_d ?_|refine z_e ?_|refine z_f ?_|refine z_g ?_|refine z_h ?_|refine z_i ?_|refine z_j ?_|refine s_a ?_|refine s_s ?_|refine s_n ?_|refine s_i ?_|refine s_f ?_|refine s_b ?_|refine s_d ?_|refine s_l1 ?_|refine s_l2 ?_|refine s_l3 ?_|refine s_l4 ?_|refine s_l5 ?_|refine s_l6 ?_|refine s_l7 ?_|refine s_l8 ?_|refine s_l9 ?_|refine s_g ?_|refine s_q ?_|refine s_e ?_|refine s_j ?_)
    refine W_late (fun w' => Blk w' b3 83 [.int .i64 kd, .int .i64 fd, .int .i64 vl, .slice Au nu cu, .slice Ap np cp]) [6, 8] (by kernel_rfl) (hb3'.keep (Keep.drew _)) ?_
    have kd' := Keep.drew w6
    have hzd := kd'.size_le
    replace hw := hw.keepR kd'
    replace hc3 := hc3.keep kd'
    replace hb2 := hb2.keep kd'
    replace hb3' := hb3'.keep kd'
    replace hoL := hoL.keep kd'
    replace hoP := hoP.keep kd'
    refine WE_takeP 0 rfl (by kernel_rfl) (by kernel_rfl) (by kernel_rfl) (by kernel_rfl) (by repeat (first | exact np_ret | refine np_then ?_ | refine np_in ?_)) rfl rfl (fun w' => o_fieldAddr rfl rfl) ?_
    refine WE_take 1 40 rfl (by kernel_rfl) (by kernel_rfl) (by kernel_rfl) (by kernel_rfl) (by kernel_rfl) (by repeat (first | exact np_ret | refine np_then ?_ | refine np_in ?_)) rfl rfl (fun w' hw' => o_load rfl (Blk.fcell hw' rfl)) ?_
    refine WE_takeP 2 rfl (by kernel_rfl) (by kernel_rfl) (by kernel_rfl) (by kernel_rfl) (by repeat (first | exact np_ret | refine np_then ?_ | refine np_in ?_)) rfl rfl (fun w' => o_move rfl) ?_
    refine WE_one 3 (by kernel_rfl) rfl ?_
    refine o_buildSlice rfl rfl rfl rfl rfl (by simp [Value.cells]) (by omega) ?_
    intro b7 w7 hal7
    have he7 := hal7.b_eq
    have hz7 := hal7.size
    have hs7 : Sl intR w7 (.slice (some ⟨b7, 0, none⟩) 3 3) [0, 9, 10] [b7] := Sl.ofInts (xs := [0, 9, 10]) hal7.blk (fun i hi => by
      rcases (show i = 0 ∨ i = 1 ∨ i = 2 by simp at hi; omega) with rfl | rfl | rfl <;> rfl) rfl (Nat.le_refl _)
    replace hw := hw.keepR hal7.kp
    replace hc3 := hc3.keep hal7.kp
    replace hb2 := hb2.keep hal7.kp
    replace hb3' := hb3'.keep hal7.kp
    replace hoL := hoL.keep hal7.kp
    replace hoP := hoP.keep hal7.kp
    refine WL_end ⟨hb3', ?_⟩
    refine WE_one 4 (by kernel_rfl) rfl ?_
    refine o_call rfl rfl rfl (l1PickInt_ok hc3 hs7 (by simp; omega) (by simp) (by simp)) ?_
    rintro _ w8 ⟨i8, hi8, rfl, hc8, hw8⟩
    have hz8 := hw8.size
    replace hw := hw.trans hw8
    replace hb2 := hb2.wrs hw8 (by simp; omega)
    replace hb3' := hb3'.wrs hw8 (by simp; omega)
    replace hoL := hoL.wrs hw8 (by omega)
    replace hoP := hoP.wrs hw8 (by omega)
    generalize gi ([0, 9, 10] : List Int) (i8 : Int) = v8 at *
    refine WL_end ⟨hb3', ?_⟩
    refine WE_one 5 (by kernel_rfl) rfl ?_
    refine o_buildSlice rfl rfl rfl rfl rfl (by simp [Value.cells]) (by omega) ?_
    intro b10 w10 hal10
    have hz10 := hal10.size
    replace hw := hw.keepR hal10.kp
    replace hc8 := hc8.keep hal10.kp
    replace hb2 := hb2.keep hal10.kp
    replace hb3' := hb3'.keep hal10.kp
    replace hoL := hoL.keep hal10.kp
    replace hoP := hoP.keep hal10.kp
    refine WL_end ⟨hb3', ?_⟩
    refine WE_last 6 (by kernel_rfl) rfl (by kernel_rfl) ?_
    refine o_appendG (R := intR) (M := _) (gi := []) rfl rfl rfl rfl rfl (by decide) hoL (Blk.src (xs := [v8]) hal10.blk (Rows.ints _ _)) rfl (Fresh.nil _ _) (fun b hb => by simp at hb) (fun b hb => (hoL.lt hb).2) (fun b hb => by simp at hb) (by simp only [totW] at htw; simp only [List.length_cons, List.length_nil]; omega) (by simp only [totW] at htw; simp only [List.length_cons, List.length_nil]; omega) (by omega) ?_
    intro vN wN hoN hbN hgN hvN
    have hrow : ∀ c, (Value.slice Au nu cu).ownBlock = some c → w1.heap.size ≤ c := fun c hc => (hoL.lt hc).1
    have hne : vN.ownBlock ≠ some b3 := fun e => by
      rcases hvN with h | h
      · rw [h] at e; have := hownL _ e; omega
      · rw [h] at e; simp only [Option.some.injEq] at e; omega
    have hdN : ∀ c, vN.ownBlock = some c → (Value.slice Ap np cp).ownBlock ≠ some c := fun c e e2 => by
      rcases hvN with h | h
      · rw [h] at e; exact hdj c e e2
      · rw [h] at e; simp only [Option.some.injEq] at e; have := hownP c e2; omega
    replace hw := hw.grown hgN (fun c hc => by have := hrow c hc; omega)
    replace hc8 := hc8.grown hgN (fun c hc => by have := hrow c hc; omega)
    replace hb2 := hb2.grown hgN (fun e => by have := hrow _ e.symm; omega)
    replace hb3' := hb3'.grown hgN (fun e => by have := hownL _ e.symm; omega)
    replace hoP := hoP.grown hgN (fun c hc => ⟨hdj c hc, by simp⟩)
    have hgz := hgN.size
    obtain ⟨A', n', c', rfl, _⟩ := hoN.split
    refine WL_end ?_
    refine WE_takeP 7 rfl (by kernel_rfl) (by kernel_rfl) (by kernel_rfl) (by kernel_rfl) (by repeat (first | exact np_ret | refine np_then ?_ | refine np_in ?_)) rfl rfl (fun w' => o_fieldAddr rfl rfl) ?_
    refine WE_last 8 (by kernel_rfl) rfl (by kernel_rfl) ?_
    refine o_store1 (b := b3) (off := 3) rfl rfl rfl rfl rfl hb3' (by simp) ?_
    intro w9 hu9
    have hb9 : Blk w9 b3 83 [.int .i64 kd, .int .i64 fd, .int .i64 vl, .slice A' n' c', .slice Ap np cp] := hu9.blk
    have hz9 := hu9.size
    replace hw := hw.updN hu9 (by omega)
    clear hc3
    have hc3 := hc8.upd hu9 (by omega)
    replace hb2 := hb2.upd hu9 (by omega)
    clear hoL
    have hoL := hoN.upd hu9 hne (by simp)
    replace hoP := hoP.upd hu9 (fun e => by have := hownP _ e; omega) (by simp)
    clear hu9 hb3' hdj
    have hdj := hdN
    refine WL_end ?_
    refine WE_done (by kernel_rfl) ?_
    repeat (first|refine z_1 ?_|refine z_2 ?_|refine s_o ?_|refine z_3 ?_|refine z_4 ?_|refine z_5 ?_|refine z_6 ?_|refine z_7 ?_|refine z_8 ?_|refine z_9 ?_|refine z_a ?_|refine z_b ?_|refine z_d ?_|refine z_e ?_|refine z_f ?_|refine z_g ?_|refine z_h ?_|refine z_i ?_|refine z_j ?_|refine s_a ?_|refine s_s ?_|refine s_n ?_|refine s_i ?_|refine s_f ?_|refine s_b ?_|refine s_d ?_|refine s_l1 ?_|refine s_l2 ?_|refine s_l3 ?_|refine s_l4 ?_|refine s_l5 ?_|refine s_l6 ?_|refine s_l7 ?_|refine s_l8 ?_|refine s_l9 ?_|refine s_g ?_|refine s_q ?_|refine s_e ?_|refine s_j ?_)
    refine o_storeS (b := b2) (off := 0) rfl rfl rfl rfl (by repeat (first | exact ones_nil | refine ones_cons (by first | rfl | assumption) ?_)) rfl hb2 (by simp) ?_
    intro wZ huZ
    have hbZ : Blk wZ b2 83 [.int .i64 kd, .int .i64 fd, .int .i64 vl, .slice A' n' c', .slice Ap np cp] := huZ.blk
    repeat (first|refine z_1 ?_|refine z_2 ?_|refine s_o ?_|refine z_3 ?_|refine z_4 ?_|refine z_5 ?_|refine z_6 ?_|refine z_7 ?_|refine z_8 ?_|refine z_9 ?_|refine z_a ?_|refine z_b ?_|refine z_d ?_|refine z_e ?_|refine z_f ?_|refine z_g ?_|refine z_h ?_|refine z_i ?_|refine z_j ?_|refine s_a ?_|refine s_s ?_|refine s_n ?_|refine s_i ?_|refine s_f ?_|refine s_b ?_|refine s_d ?_|refine s_l1 ?_|refine s_l2 ?_|refine s_l3 ?_|refine s_l4 ?_|refine s_l5 ?_|refine s_l6 ?_|refine s_l7 ?_|refine s_l8 ?_|refine s_l9 ?_|refine s_g ?_|refine s_q ?_|refine s_e ?_|refine s_j ?_)
    exact retc rfl rfl hbZ.cells rfl ⟨⟨kd, fd, vl, _, ps⟩, .slice A' n' c', .slice Ap np cp, rfl, (hoL.upd huZ (fun e => by have := (hoL.lt e).1; omega) (by simp)).below (by omega), (hoP.upd huZ (fun e => by have := (hoP.lt e).1; omega) (by simp)).below (by omega), hdj, by simp only [totW] at htw ⊢; simp only [List.length_append, List.length_cons, List.length_nil]; omega, hc3.upd huZ (by omega), hw.updN huZ (by omega)⟩
  repeat (first|refine z_1 ?_|refine z_2 ?_|refine s_o ?_|refine z_3 ?_|refine z_4 ?_|refine z_5 ?_|refine z_6 ?_|refine z_7 ?_|refine z_8 ?_|refine z_9 ?_|refine z_a ?_|refine z_b ?_|refine z_d ?_|refine z_e ?_|refine z_f ?_|refine z_g ?_|refine z_h ?_|refine z_i ?_|refine z_j ?_|refine s_a ?_|refine s_s ?_|refine s_n ?_|refine s_i ?_|refine s_f ?_|refine s_b ?_|refine s_d ?_|refine s_l1 ?_|refine s_l2 ?_|refine s_l3 ?_|refine s_l4 ?_|refine s_l5 ?_|refine s_l6 ?_|refine s_l7 ?_|refine s_l8 ?_|refine s_l9 ?_|refine s_g ?_|refine s_q ?_|refine s_e ?_|refine s_j ?_)
  repeat (first|refine z_1 ?_|refine z_2 ?_|refine s_o ?_|refine z_3 ?_|refine z_4 ?_|refine z_5 ?_|refine z_6 ?_|refine z_7 ?_|refine z_8 ?_|refine z_9 ?_|refine z_a ?_|refine z_b ?_|refine z_d ?_|refine z_e ?_|refine z_f ?_|refine z_g ?_|refine z_h ?_|refine z_i ?_|refine z_j ?_|refine s_a ?_|refine s_s ?_|refine s_n ?_|refine s_i ?_|refine s_f ?_|refine s_b ?_|refine s_d ?_|refine s_l1 ?_|refine s_l2 ?_|refine s_l3 ?_|refine s_l4 ?_|refine s_l5 ?_|refine s_l6 ?_|refine s_l7 ?_|refine s_l8 ?_|refine s_l9 ?_|refine s_g ?_|refine s_q ?_|refine s_e ?_|refine s_j ?_)
  refine o_storeS (b := b2) (off := 0) rfl rfl rfl rfl (by repeat (first | exact ones_nil | refine ones_cons (by first | rfl | assumption) ?_)) rfl hb2 (by simp) ?_
  intro wZ huZ
  have hbZ : Blk wZ b2 83 [.int .i64 kd, .int .i64 fd, .int .i64 vl, .slice Au nu cu, .slice Ap np cp] := huZ.blk
  repeat (first|refine z_1 ?_|refine z_2 ?_|refine s_o ?_|refine z_3 ?_|refine z_4 ?_|refine z_5 ?_|refine z_6 ?_|refine z_7 ?_|refine z_8 ?_|refine z_9 ?_|refine z_a ?_|refine z_b ?_|refine z_d ?_|refine z_e ?_|refine z_f ?_|refine z_g ?_|refine z_h ?_|refine z_i ?_|refine z_j ?_|refine s_a ?_|refine s_s ?_|refine s_n ?_|refine s_i ?_|refine s_f ?_|refine s_b ?_|refine s_d ?_|refine s_l1 ?_|refine s_l2 ?_|refine s_l3 ?_|refine s_l4 ?_|refine s_l5 ?_|refine s_l6 ?_|refine s_l7 ?_|refine s_l8 ?_|refine s_l9 ?_|refine s_g ?_|refine s_q ?_|refine s_e ?_|refine s_j ?_)
  exact retc rfl rfl hbZ.cells rfl ⟨⟨kd, fd, vl, ls, ps⟩, .slice Au nu cu, .slice Ap np cp, rfl, (hoL.upd huZ (fun e => by have := (hoL.lt e).1; omega) (by simp)).below (by omega), (hoP.upd huZ (fun e => by have := (hoP.lt e).1; omega) (by simp)).below (by omega), hdj, by simp only [totW] at htw ⊢; omega, hc3.upd huZ (by omega), hw.updN huZ (by omega)⟩
end Go.E

/-
  Contracts: any items drawn from a cursor, valid ones or not. Conditions: as stated.
-/
import Derived.Test.YtpdhdnmcafjadaaDd
import Derived.Test.YtpdhdnmcafjadaaSt
import Derived.Test.YtpdhdnmcafjadaaAg
set_option linter.unusedVariables false
set_option linter.unusedSimpArgs false
namespace Go.E
open Go Go.RowKit Go.Proofs
attribute [local irreducible] W WL WD WE thenE inE retQ PureOp Keep Cell Cells Blk Sl Rows Own Src Fresh
attribute [local irreducible] Cur

set_option maxHeartbeats 1000000 in
theorem l2AnyItem_ok {w : World} {b : Nat} (hc : Cur w b) :
    Run Try.prog 155 [.pointer (some ⟨b, 0, none⟩)] w (fun r w' => ∃ (id : Int) (u : Value) (xs : List Int), r = .agg #[.int .i64 id, u] ∧ OwnF intR w' w.heap.size 3 u xs [] ∧ xs.length ≤ 4 ∧ Cur w' b ∧ Wrs w w' [b]) := by
  have hbl := hc.lt
  refine Run_intro Try.func155 (by unfold CallOk; kernel_rfl) rfl Try.ntmps155 (Nat.le_of_ble_eq_true rfl) ?_
  simp only [penv, Nat.reduceAdd, Nat.zero_add]
  repeat (first|refine z_1 ?_|refine z_2 ?_|refine s_o ?_|refine z_3 ?_|refine z_4 ?_|refine z_5 ?_|refine z_6 ?_|refine z_7 ?_|refine z_8 ?_|refine z_9 ?_|refine z_a ?_|refine z_b ?_|refine z_d ?_|refine z_e ?_|refine z_f ?_|refine z_g ?_|refine z_h ?_|refine z_i ?_|refine z_j ?_|refine s_a ?_|refine s_s ?_|refine s_n ?_|refine s_i ?_|refine s_f ?_|refine s_b ?_|refine s_d ?_|refine s_l1 ?_|refine s_l2 ?_|refine s_l3 ?_|refine s_l4 ?_|refine s_l5 ?_|refine s_l6 ?_|refine s_l7 ?_|refine s_l8 ?_|refine s_l9 ?_|refine s_g ?_|refine s_q ?_|refine s_e ?_|refine s_j ?_)
  refine o_alloc rfl rfl ?_
  intro b2 w1 hal2
  have hb2 := hal2.blk
  have he2 := hal2.b_eq
  have hz2 := hal2.size
  have hw : Wrs w w1 [b] := hal2.kp.wrs
  replace hc := hc.keep hal2.kp
  repeat (first|refine z_1 ?_|refine z_2 ?_|refine s_o ?_|refine z_3 ?_|refine z_4 ?_|refine z_5 ?_|refine z_6 ?_|refine z_7 ?_|refine z_8 ?_|refine z_9 ?_|refine z_a ?_|refine z_b ?_|refine z_d ?_|refine z_e ?_|refine z_f ?_|refine z_g ?_|refine z_h ?_|refine z_i ?_|refine z_j ?_|refine s_a ?_|refine s_s ?_|refine s_n ?_|refine s_i ?_|refine s_f ?_|refine s_b ?_|refine s_d ?_|refine s_l1 ?_|refine s_l2 ?_|refine s_l3 ?_|refine s_l4 ?_|refine s_l5 ?_|refine s_l6 ?_|refine s_l7 ?_|refine s_l8 ?_|refine s_l9 ?_|refine s_g ?_|refine s_q ?_|refine s_e ?_|refine s_j ?_)
  refine o_call rfl rfl rfl (l1Below_ok hc (by omega)) ?_
  rintro _ w2 ⟨id, rfl, hi0, hi1, _, hc2, hw2⟩
  have hz22 := hw2.size
  replace hw := hw.trans hw2
  replace hb2 := hb2.wrs hw2 (by simp; omega)
  repeat (first|refine z_1 ?_|refine z_2 ?_|refine s_o ?_|refine z_3 ?_|refine z_4 ?_|refine z_5 ?_|refine z_6 ?_|refine z_7 ?_|refine z_8 ?_|refine z_9 ?_|refine z_a ?_|refine z_b ?_|refine z_d ?_|refine z_e ?_|refine z_f ?_|refine z_g ?_|refine z_h ?_|refine z_i ?_|refine z_j ?_|refine s_a ?_|refine s_s ?_|refine s_n ?_|refine s_i ?_|refine s_f ?_|refine s_b ?_|refine s_d ?_|refine s_l1 ?_|refine s_l2 ?_|refine s_l3 ?_|refine s_l4 ?_|refine s_l5 ?_|refine s_l6 ?_|refine s_l7 ?_|refine s_l8 ?_|refine s_l9 ?_|refine s_g ?_|refine s_q ?_|refine s_e ?_|refine s_j ?_)
  refine o_call rfl rfl rfl (l2Item_ok hc2 (id := id) (by omega)) ?_
  rintro _ w3 ⟨u, xs, rfl, ho, hl, hc3, hw3⟩
  have hz33 := hw3.size
  replace hw := hw.trans hw3
  replace hb2 := hb2.wrs hw3 (by simp; omega)
  obtain ⟨Au, nu, cu, rfl, hnu, _⟩ := ho.split
  have hown : ∀ c, (Value.slice Au nu cu).ownBlock = some c → c < w3.heap.size := fun c hc => (ho.lt hc).2
  repeat (first|refine z_1 ?_|refine z_2 ?_|refine s_o ?_|refine z_3 ?_|refine z_4 ?_|refine z_5 ?_|refine z_6 ?_|refine z_7 ?_|refine z_8 ?_|refine z_9 ?_|refine z_a ?_|refine z_b ?_|refine z_d ?_|refine z_e ?_|refine z_f ?_|refine z_g ?_|refine z_h ?_|refine z_i ?_|refine z_j ?_|refine s_a ?_|refine s_s ?_|refine s_n ?_|refine s_i ?_|refine s_f ?_|refine s_b ?_|refine s_d ?_|refine s_l1 ?_|refine s_l2 ?_|refine s_l3 ?_|refine s_l4 ?_|refine s_l5 ?_|refine s_l6 ?_|refine s_l7 ?_|refine s_l8 ?_|refine s_l9 ?_|refine s_g ?_|refine s_q ?_|refine s_e ?_|refine s_j ?_)
  refine o_alloc rfl rfl ?_
  intro b3 w4 hal3
  have hb3 := hal3.blk
  have he3 := hal3.b_eq
  have hz3 := hal3.size
  replace hw := hw.keepR hal3.kp
  replace hc3 := hc3.keep hal3.kp
  replace hb2 := hb2.keep hal3.kp
  replace ho := ho.keep hal3.kp
  repeat (first|refine z_1 ?_|refine z_2 ?_|refine s_o ?_|refine z_3 ?_|refine z_4 ?_|refine z_5 ?_|refine z_6 ?_|refine z_7 ?_|refine z_8 ?_|refine z_9 ?_|refine z_a ?_|refine z_b ?_|refine z_d ?_|refine z_e ?_|refine z_f ?_|refine z_g ?_|refine z_h ?_|refine z_i ?_|refine z_j ?_|refine s_a ?_|refine s_s ?_|refine s_n ?_|refine s_i ?_|refine s_f ?_|refine s_b ?_|refine s_d ?_|refine s_l1 ?_|refine s_l2 ?_|refine s_l3 ?_|refine s_l4 ?_|refine s_l5 ?_|refine s_l6 ?_|refine s_l7 ?_|refine s_l8 ?_|refine s_l9 ?_|refine s_g ?_|refine s_q ?_|refine s_e ?_|refine s_j ?_)
  refine o_storeS (b := b3) (off := 0) rfl rfl rfl rfl (by repeat (first | exact ones_nil | refine ones_cons (by first | rfl | assumption) ?_)) rfl hb3 (by simp) ?_
  intro w5 hu5
  have hb3' : Blk w5 b3 66 [.int .i64 id, .slice Au nu cu] := hu5.blk
  have hz5 := hu5.size
  replace hw := hw.updN hu5 (by omega)
  replace hc3 := hc3.upd hu5 (by omega)
  replace hb2 := hb2.upd hu5 (by omega)
  replace ho := ho.upd hu5 (fun e => by have := hown _ e; omega) (by simp)
  clear hu5 hb3
  repeat (first|refine z_1 ?_|refine z_2 ?_|refine s_o ?_|refine z_3 ?_|refine z_4 ?_|refine z_5 ?_|refine z_6 ?_|refine z_7 ?_|refine z_8 ?_|refine z_9 ?_|refine z_a ?_|refine z_b ?_|refine z_d ?_|refine z_e ?_|refine z_f ?_|refine z_g ?_|refine z_h ?_|refine z_i ?_|refine z_j ?_|refine s_a ?_|refine s_s ?_|refine s_n ?_|refine s_i ?_|refine s_f ?_|refine s_b ?_|refine s_d ?_|refine s_l1 ?_|refine s_l2 ?_|refine s_l3 ?_|refine s_l4 ?_|refine s_l5 ?_|refine s_l6 ?_|refine s_l7 ?_|refine s_l8 ?_|refine s_l9 ?_|refine s_g ?_|refine s_q ?_|refine s_e ?_|refine s_j ?_)
  refine o_call rfl rfl rfl (l1Below_ok hc3 (by omega)) ?_
  rintro _ w6 ⟨q, rfl, hq0, hq1, _, hc6, hw6⟩
  have hz6 := hw6.size
  replace hw := hw.trans hw6
  replace hb2 := hb2.wrs hw6 (by simp; omega)
  replace hb3' := hb3'.wrs hw6 (by simp; omega)
  replace ho := ho.wrs hw6 (by omega)
  clear hc3
  have hc3 := hc6
  clear hc6
  repeat (first|refine z_1 ?_|refine z_2 ?_|refine s_o ?_|refine z_3 ?_|refine z_4 ?_|refine z_5 ?_|refine z_6 ?_|refine z_7 ?_|refine z_8 ?_|refine z_9 ?_|refine z_a ?_|refine z_b ?_|refine z_d ?_|refine z_e ?_|refine z_f ?_|refine z_g ?_|refine z_h ?_|refine z_i ?_|refine z_j ?_|refine s_a ?_|refine s_s ?_|refine s_n ?_|refine s_i ?_|refine s_f ?_|refine s_b ?_|refine s_d ?_|refine s_l1 ?_|refine s_l2 ?_|refine s_l3 ?_|refine s_l4 ?_|refine s_l5 ?_|refine s_l6 ?_|refine s_l7 ?_|refine s_l8 ?_|refine s_l9 ?_|refine s_g ?_|refine s_q ?_|refine s_e ?_|refine s_j ?_)
  refine W_cond rfl (fun h0 => ?_) (fun h0 => ?_)
  · repeat (first|refine z_1 ?_|refine z_2 ?_|refine s_o ?_|refine z_3 ?_|refine z_4 ?_|refine z_5 ?_|refine z_6 ?_|refine z_7 ?_|refine z_8 ?_|refine z_9 ?_|refine z_a ?_|refine z_b ?_|refine z_d ?_|refine z_e ?_|refine z_f ?_|refine z_g ?_|refine z_h ?_|refine z_i ?_|refine z_j ?_|refine s_a ?_|refine s_s ?_|refine s_n ?_|refine s_i ?_|refine s_f ?_|refine s_b ?_|refine s_d ?_|refine s_l1 ?_|refine s_l2 ?_|refine s_l3 ?_|refine s_l4 ?_|refine s_l5 ?_|refine s_l6 ?_|refine s_l7 ?_|refine s_l8 ?_|refine s_l9 ?_|refine s_g ?_|refine s_q ?_|refine s_e ?_|refine s_j ?_)
    refine o_buildSlice rfl rfl rfl rfl rfl (by simp [Value.cells]) (by omega) ?_
    intro b7 w7 hal7
    have he7 := hal7.b_eq
    have hz7 := hal7.size
    have hs7 : Sl intR w7 (.slice (some ⟨b7, 0, none⟩) 3 3) [-1, 99, 100] [b7] := Sl.ofInts (xs := [-1, 99, 100]) hal7.blk (fun i hi => by
      rcases (show i = 0 ∨ i = 1 ∨ i = 2 by simp at hi; omega) with rfl | rfl | rfl <;> rfl) rfl (Nat.le_refl _)
    replace hw := hw.keepR hal7.kp
    replace hc3 := hc3.keep hal7.kp
    replace hb2 := hb2.keep hal7.kp
    replace hb3' := hb3'.keep hal7.kp
    replace ho := ho.keep hal7.kp
    repeat (first|refine z_1 ?_|refine z_2 ?_|refine s_o ?_|refine z_3 ?_|refine z_4 ?_|refine z_5 ?_|refine z_6 ?_|refine z_7 ?_|refine z_8 ?_|refine z_9 ?_|refine z_a ?_|refine z_b ?_|refine z_d ?_|refine z_e ?_|refine z_f ?_|refine z_g ?_|refine z_h ?_|refine z_i ?_|refine z_j ?_|refine s_a ?_|refine s_s ?_|refine s_n ?_|refine s_i ?_|refine s_f ?_|refine s_b ?_|refine s_d ?_|refine s_l1 ?_|refine s_l2 ?_|refine s_l3 ?_|refine s_l4 ?_|refine s_l5 ?_|refine s_l6 ?_|refine s_l7 ?_|refine s_l8 ?_|refine s_l9 ?_|refine s_g ?_|refine s_q ?_|refine s_e ?_|refine s_j ?_)
    refine o_call rfl rfl rfl (l1PickInt_ok hc3 hs7 (by simp; omega) (by simp) (by simp)) ?_
    rintro _ w8 ⟨i8, hi8, rfl, hc8, hw8⟩
    have hz8 := hw8.size
    replace hw := hw.trans hw8
    replace hb2 := hb2.wrs hw8 (by simp; omega)
    replace hb3' := hb3'.wrs hw8 (by simp; omega)
    replace ho := ho.wrs hw8 (by omega)
    generalize gi ([-1, 99, 100] : List Int) (i8 : Int) = id8 at *
    repeat (first|refine z_1 ?_|refine z_2 ?_|refine s_o ?_|refine z_3 ?_|refine z_4 ?_|refine z_5 ?_|refine z_6 ?_|refine z_7 ?_|refine z_8 ?_|refine z_9 ?_|refine z_a ?_|refine z_b ?_|refine z_d ?_|refine z_e ?_|refine z_f ?_|refine z_g ?_|refine z_h ?_|refine z_i ?_|refine z_j ?_|refine s_a ?_|refine s_s ?_|refine s_n ?_|refine s_i ?_|refine s_f ?_|refine s_b ?_|refine s_d ?_|refine s_l1 ?_|refine s_l2 ?_|refine s_l3 ?_|refine s_l4 ?_|refine s_l5 ?_|refine s_l6 ?_|refine s_l7 ?_|refine s_l8 ?_|refine s_l9 ?_|refine s_g ?_|refine s_q ?_|refine s_e ?_|refine s_j ?_)
    refine o_store1 (b := b3) (off := 0) rfl rfl rfl rfl rfl hb3' (by simp) ?_
    intro w9 hu9
    have hb9 : Blk w9 b3 66 [.int .i64 id8, .slice Au nu cu] := hu9.blk
    have hz9 := hu9.size
    replace hw := hw.updN hu9 (by omega)
    have hc3 := hc8.upd hu9 (by omega)
    replace hb2 := hb2.upd hu9 (by omega)
    replace ho := ho.upd hu9 (fun e => by have := hown _ e; omega) (by simp)
    clear hu9 hb3'
    repeat (first|refine z_1 ?_|refine z_2 ?_|refine s_o ?_|refine z_3 ?_|refine z_4 ?_|refine z_5 ?_|refine z_6 ?_|refine z_7 ?_|refine z_8 ?_|refine z_9 ?_|refine z_a ?_|refine z_b ?_|refine z_d ?_|refine z_e ?_|refine z_f ?_|refine z_g ?_|refine z_h ?_|refine z_i ?_|refine z_j ?_|refine s_a ?_|refine s_s ?_|refine s_n ?_|refine s_i ?_|refine s_f ?_|refine s_b ?_|refine s_d ?_|refine s_l1 ?_|refine s_l2 ?_|refine s_l3 ?_|refine s_l4 ?_|refine s_l5 ?_|refine s_l6 ?_|refine s_l7 ?_|refine s_l8 ?_|refine s_l9 ?_|refine s_g ?_|refine s_q ?_|refine s_e ?_|refine s_j ?_)
    refine o_storeS (b := b2) (off := 0) rfl rfl rfl rfl (by repeat (first | exact ones_nil | refine ones_cons (by first | rfl | assumption) ?_)) rfl hb2 (by simp) ?_
    intro wZ huZ
    have hbZ : Blk wZ b2 66 [.int .i64 id8, .slice Au nu cu] := huZ.blk
    repeat (first|refine z_1 ?_|refine z_2 ?_|refine s_o ?_|refine z_3 ?_|refine z_4 ?_|refine z_5 ?_|refine z_6 ?_|refine z_7 ?_|refine z_8 ?_|refine z_9 ?_|refine z_a ?_|refine z_b ?_|refine z_d ?_|refine z_e ?_|refine z_f ?_|refine z_g ?_|refine z_h ?_|refine z_i ?_|refine z_j ?_|refine s_a ?_|refine s_s ?_|refine s_n ?_|refine s_i ?_|refine s_f ?_|refine s_b ?_|refine s_d ?_|refine s_l1 ?_|refine s_l2 ?_|refine s_l3 ?_|refine s_l4 ?_|refine s_l5 ?_|refine s_l6 ?_|refine s_l7 ?_|refine s_l8 ?_|refine s_l9 ?_|refine s_g ?_|refine s_q ?_|refine s_e ?_|refine s_j ?_)
    exact retc rfl rfl hbZ.cells rfl ⟨id8, .slice Au nu cu, _, rfl, (ho.upd huZ (fun e => by have := (ho.lt e).1; omega) (by simp)).below (by omega), by omega, hc3.upd huZ (by omega), hw.updN huZ (by omega)⟩
  repeat (first|refine z_1 ?_|refine z_2 ?_|refine s_o ?_|refine z_3 ?_|refine z_4 ?_|refine z_5 ?_|refine z_6 ?_|refine z_7 ?_|refine z_8 ?_|refine z_9 ?_|refine z_a ?_|refine z_b ?_|refine z_d ?_|refine z_e ?_|refine z_f ?_|refine z_g ?_|refine z_h ?_|refine z_i ?_|refine z_j ?_|refine s_a ?_|refine s_s ?_|refine s_n ?_|refine s_i ?_|refine s_f ?_|refine s_b ?_|refine s_d ?_|refine s_l1 ?_|refine s_l2 ?_|refine s_l3 ?_|refine s_l4 ?_|refine s_l5 ?_|refine s_l6 ?_|refine s_l7 ?_|refine s_l8 ?_|refine s_l9 ?_|refine s_g ?_|refine s_q ?_|refine s_e ?_|refine s_j ?_)
  refine W_cond rfl (fun h1 => ?_) (fun h1 => ?_)
  · obtain ⟨bo, cap, cl, hve, hbo, hbl, hcl, hcap, hcg, hst⟩ := ho.stI (by intro e; rw [e] at hl; cases hl)
    simp only [Value.slice.injEq] at hve
    obtain ⟨rfl, rfl, rfl⟩ := hve
    have hbo3 := hown bo rfl
    repeat (first|refine z_1 ?_|refine z_2 ?_|refine s_o ?_|refine z_3 ?_|refine z_4 ?_|refine z_5 ?_|refine z_6 ?_|refine z_7 ?_|refine z_8 ?_|refine z_9 ?_|refine z_a ?_|refine z_b ?_|refine z_d ?_|refine z_e ?_|refine z_f ?_|refine z_g ?_|refine z_h ?_|refine z_i ?_|refine z_j ?_|refine s_a ?_|refine s_s ?_|refine s_n ?_|refine s_i ?_|refine s_f ?_|refine s_b ?_|refine s_d ?_|refine s_l1 ?_|refine s_l2 ?_|refine s_l3 ?_|refine s_l4 ?_|refine s_l5 ?_|refine s_l6 ?_|refine s_l7 ?_|refine s_l8 ?_|refine s_l9 ?_|refine s_g ?_|refine s_q ?_|refine s_e ?_|refine s_j ?_)
    refine W_draw (fun w' => Blk w' b3 66 [.int .i64 id, .slice (some ⟨bo, 0, none⟩) xs.length cu]) (by kernel_rfl) ?_
    have kd := Keep.drew w6
    have hzd := kd.size_le
    replace hw := hw.keepR kd
    replace hc3 := hc3.keep kd
    replace hb2 := hb2.keep kd
    replace hb3' := hb3'.keep kd
    replace ho := ho.keep kd
    replace hbl := hbl.keep kd
    refine WD_take 0 rfl (by kernel_rfl) (by kernel_rfl) (by kernel_rfl) (by repeat (first | exact np_ret | refine np_then ?_ | refine np_in ?_)) rfl rfl (fun w' _ => o_fieldAddr rfl rfl) hb3' ?_
    refine WD_take 1 rfl (by kernel_rfl) (by kernel_rfl) (by kernel_rfl) (by repeat (first | exact np_ret | refine np_then ?_ | refine np_in ?_)) rfl rfl (fun w' hw' => o_load rfl (Blk.fcell hw' rfl)) hb3' ?_
    refine WD_take 2 rfl (by kernel_rfl) (by kernel_rfl) (by kernel_rfl) (by repeat (first | exact np_ret | refine np_then ?_ | refine np_in ?_)) rfl rfl (fun w' hw' => o_move rfl) hb3' ?_
    refine WD_one 3 (by kernel_rfl) rfl ?_
    refine o_buildSlice rfl rfl rfl rfl rfl (by simp [Value.cells]) (by omega) ?_
    intro b7 w7 hal7
    have he7 := hal7.b_eq
    have hz7 := hal7.size
    have hs7 : Sl intR w7 (.slice (some ⟨b7, 0, none⟩) 3 3) [-1, 9, 10] [b7] := Sl.ofInts (xs := [-1, 9, 10]) hal7.blk (fun i hi => by
      rcases (show i = 0 ∨ i = 1 ∨ i = 2 by simp at hi; omega) with rfl | rfl | rfl <;> rfl) rfl (Nat.le_refl _)
    replace hw := hw.keepR hal7.kp
    replace hc3 := hc3.keep hal7.kp
    replace hb2 := hb2.keep hal7.kp
    replace hb3' := hb3'.keep hal7.kp
    replace ho := ho.keep hal7.kp
    replace hbl := hbl.keep hal7.kp
    refine WL_end ⟨hb3', ?_⟩
    refine WD_one 4 (by kernel_rfl) rfl ?_
    refine o_call rfl rfl rfl (l1PickInt_ok hc3 hs7 (by simp; omega) (by simp) (by simp)) ?_
    rintro _ w8 ⟨i8, hi8, rfl, hc8, hw8⟩
    have hz8 := hw8.size
    replace hw := hw.trans hw8
    replace hb2 := hb2.wrs hw8 (by simp; omega)
    replace hb3' := hb3'.wrs hw8 (by simp; omega)
    replace hbl := hbl.wrs hw8 (by simp; omega)
    replace ho := ho.wrs hw8 (by omega)
    refine WL_end ⟨hb3', ?_⟩
    obtain ⟨bo', cap', cl', hve', hbo', hbl', hcl', hcap', hcg', hst'⟩ := ho.stI (by intro e; rw [e] at hl; cases hl)
    simp only [Value.slice.injEq, Option.some.injEq, Addr.mk.injEq, and_true] at hve'
    obtain ⟨rfl, _, rfl⟩ := hve'
    generalize gi ([-1, 9, 10] : List Int) (i8 : Int) = v8 at *
    refine WD_take 5 rfl (by kernel_rfl) (by kernel_rfl) (by kernel_rfl) (by repeat (first | exact np_ret | refine np_then ?_ | refine np_in ?_)) rfl rfl (fun w' hw' => o_indexAddr rfl rfl rfl (by omega) (by omega)) hb3' ?_
    refine WD_one 6 (by kernel_rfl) rfl ?_
    refine o_store1 (b := bo) (off := 0) rfl rfl rfl rfl rfl hbl' (by omega) ?_
    intro w9 hu9
    have ho9 := hst' w9 0 v8 (by omega) hu9
    have hz9 := hu9.size
    replace hw := hw.updN hu9 (by omega)
    replace hc3 := hc8.upd hu9 (by omega)
    replace hb2 := hb2.upd hu9 (by omega)
    have hb9 := hb3'.upd hu9 (by omega)
    clear hb3' ho
    have ho := ho9
    refine WL_end ⟨hb9, ?_⟩
    refine WD_done (by kernel_rfl) ?_
    repeat (first|refine z_1 ?_|refine z_2 ?_|refine s_o ?_|refine z_3 ?_|refine z_4 ?_|refine z_5 ?_|refine z_6 ?_|refine z_7 ?_|refine z_8 ?_|refine z_9 ?_|refine z_a ?_|refine z_b ?_|refine z_d ?_|refine z_e ?_|refine z_f ?_|refine z_g ?_|refine z_h ?_|refine z_i ?_|refine z_j ?_|refine s_a ?_|refine s_s ?_|refine s_n ?_|refine s_i ?_|refine s_f ?_|refine s_b ?_|refine s_d ?_|refine s_l1 ?_|refine s_l2 ?_|refine s_l3 ?_|refine s_l4 ?_|refine s_l5 ?_|refine s_l6 ?_|refine s_l7 ?_|refine s_l8 ?_|refine s_l9 ?_|refine s_g ?_|refine s_q ?_|refine s_e ?_|refine s_j ?_)
    refine o_storeS (b := b2) (off := 0) rfl rfl rfl rfl (by repeat (first | exact ones_nil | refine ones_cons (by first | rfl | assumption) ?_)) rfl hb2 (by simp) ?_
    intro wZ huZ
    have hbZ : Blk wZ b2 66 [.int .i64 id, .slice (some ⟨bo, 0, none⟩) xs.length cu] := huZ.blk
    repeat (first|refine z_1 ?_|refine z_2 ?_|refine s_o ?_|refine z_3 ?_|refine z_4 ?_|refine z_5 ?_|refine z_6 ?_|refine z_7 ?_|refine z_8 ?_|refine z_9 ?_|refine z_a ?_|refine z_b ?_|refine z_d ?_|refine z_e ?_|refine z_f ?_|refine z_g ?_|refine z_h ?_|refine z_i ?_|refine z_j ?_|refine s_a ?_|refine s_s ?_|refine s_n ?_|refine s_i ?_|refine s_f ?_|refine s_b ?_|refine s_d ?_|refine s_l1 ?_|refine s_l2 ?_|refine s_l3 ?_|refine s_l4 ?_|refine s_l5 ?_|refine s_l6 ?_|refine s_l7 ?_|refine s_l8 ?_|refine s_l9 ?_|refine s_g ?_|refine s_q ?_|refine s_e ?_|refine s_j ?_)
    exact retc rfl rfl hbZ.cells rfl ⟨id, _, _, rfl, (ho.upd huZ (fun e => by have := (ho.lt e).1; omega) (by simp)).below (by omega), by simp; omega, hc3.upd huZ (by omega), hw.updN huZ (by omega)⟩
  repeat (first|refine z_1 ?_|refine z_2 ?_|refine s_o ?_|refine z_3 ?_|refine z_4 ?_|refine z_5 ?_|refine z_6 ?_|refine z_7 ?_|refine z_8 ?_|refine z_9 ?_|refine z_a ?_|refine z_b ?_|refine z_d ?_|refine z_e ?_|refine z_f ?_|refine z_g ?_|refine z_h ?_|refine z_i ?_|refine z_j ?_|refine s_a ?_|refine s_s ?_|refine s_n ?_|refine s_i ?_|refine s_f ?_|refine s_b ?_|refine s_d ?_|refine s_l1 ?_|refine s_l2 ?_|refine s_l3 ?_|refine s_l4 ?_|refine s_l5 ?_|refine s_l6 ?_|refine s_l7 ?_|refine s_l8 ?_|refine s_l9 ?_|refine s_g ?_|refine s_q ?_|refine s_e ?_|refine s_j ?_)
  refine W_cond rfl (fun h2 => ?_) (fun h2 => ?_)
  · repeat (first|refine z_1 ?_|refine z_2 ?_|refine s_o ?_|refine z_3 ?_|refine z_4 ?_|refine z_5 ?_|refine z_6 ?_|refine z_7 ?_|refine z_8 ?_|refine z_9 ?_|refine z_a ?_|refine z_b ?_|refine z_d ?_|refine z_e ?_|refine z_f ?_|refine z_g ?_|refine z_h ?_|refine z_i ?_|refine z_j ?_|refine s_a ?_|refine s_s ?_|refine s_n ?_|refine s_i ?_|refine s_f ?_|refine s_b ?_|refine s_d ?_|refine s_l1 ?_|refine s_l2 ?_|refine s_l3 ?_|refine s_l4 ?_|refine s_l5 ?_|refine s_l6 ?_|refine s_l7 ?_|refine s_l8 ?_|refine s_l9 ?_|refine s_g ?_|refine s_q ?_|refine s_e ?_|refine s_j ?_)
    refine o_buildSlice rfl rfl rfl rfl rfl (by simp [Value.cells]) (by omega) ?_
    intro b7 w7 hal7
    have hz7 := hal7.size
    replace hw := hw.keepR hal7.kp
    replace hc3 := hc3.keep hal7.kp
    replace hb2 := hb2.keep hal7.kp
    replace hb3' := hb3'.keep hal7.kp
    replace ho := ho.keep hal7.kp
    repeat (first|refine z_1 ?_|refine z_2 ?_|refine s_o ?_|refine z_3 ?_|refine z_4 ?_|refine z_5 ?_|refine z_6 ?_|refine z_7 ?_|refine z_8 ?_|refine z_9 ?_|refine z_a ?_|refine z_b ?_|refine z_d ?_|refine z_e ?_|refine z_f ?_|refine z_g ?_|refine z_h ?_|refine z_i ?_|refine z_j ?_|refine s_a ?_|refine s_s ?_|refine s_n ?_|refine s_i ?_|refine s_f ?_|refine s_b ?_|refine s_d ?_|refine s_l1 ?_|refine s_l2 ?_|refine s_l3 ?_|refine s_l4 ?_|refine s_l5 ?_|refine s_l6 ?_|refine s_l7 ?_|refine s_l8 ?_|refine s_l9 ?_|refine s_g ?_|refine s_q ?_|refine s_e ?_|refine s_j ?_)
    refine o_appendG (R := intR) (M := _) (gi := []) rfl rfl rfl rfl rfl (by decide) ho (Blk.src (xs := [1]) hal7.blk (Rows.ints _ _)) rfl (Fresh.nil _ _) (fun b hb => by simp at hb) (fun b hb => (ho.lt hb).2) (fun b hb => by simp at hb) (by simp only [List.length_cons, List.length_nil]; omega) (by simp only [List.length_cons, List.length_nil]; omega) (by omega) ?_
    intro vN wN hoN hbN hgN hvN
    have hne : vN.ownBlock ≠ some b3 := fun e => by
      rcases hvN with h | h
      · rw [h] at e; have := hown _ e; omega
      · rw [h] at e; simp only [Option.some.injEq] at e; omega
    have hrow : ∀ c, (Value.slice Au nu cu).ownBlock = some c → w2.heap.size ≤ c := fun c hc => (ho.lt hc).1
    replace hw := hw.grown hgN (fun c hc => by have := hrow c hc; omega)
    replace hc3 := hc3.grown hgN (fun c hc => by have := hrow c hc; omega)
    replace hb2 := hb2.grown hgN (fun e => by have := hrow _ e.symm; omega)
    replace hb3' := hb3'.grown hgN (fun e => by have := hown _ e.symm; omega)
    obtain ⟨A', n', c', rfl, _⟩ := hoN.split
    have hgz := hgN.size
    repeat (first|refine z_1 ?_|refine z_2 ?_|refine s_o ?_|refine z_3 ?_|refine z_4 ?_|refine z_5 ?_|refine z_6 ?_|refine z_7 ?_|refine z_8 ?_|refine z_9 ?_|refine z_a ?_|refine z_b ?_|refine z_d ?_|refine z_e ?_|refine z_f ?_|refine z_g ?_|refine z_h ?_|refine z_i ?_|refine z_j ?_|refine s_a ?_|refine s_s ?_|refine s_n ?_|refine s_i ?_|refine s_f ?_|refine s_b ?_|refine s_d ?_|refine s_l1 ?_|refine s_l2 ?_|refine s_l3 ?_|refine s_l4 ?_|refine s_l5 ?_|refine s_l6 ?_|refine s_l7 ?_|refine s_l8 ?_|refine s_l9 ?_|refine s_g ?_|refine s_q ?_|refine s_e ?_|refine s_j ?_)
    refine o_store1 (b := b3) (off := 1) rfl rfl rfl rfl rfl hb3' (by simp) ?_
    intro w9 hu9
    have hb9 : Blk w9 b3 66 [.int .i64 id, .slice A' n' c'] := hu9.blk
    have hz9 := hu9.size
    replace hw := hw.updN hu9 (by omega)
    replace hc3 := hc3.upd hu9 (by omega)
    replace hb2 := hb2.upd hu9 (by omega)
    replace ho := hoN.upd hu9 hne (by simp)
    clear hu9 hb3'
    repeat (first|refine z_1 ?_|refine z_2 ?_|refine s_o ?_|refine z_3 ?_|refine z_4 ?_|refine z_5 ?_|refine z_6 ?_|refine z_7 ?_|refine z_8 ?_|refine z_9 ?_|refine z_a ?_|refine z_b ?_|refine z_d ?_|refine z_e ?_|refine z_f ?_|refine z_g ?_|refine z_h ?_|refine z_i ?_|refine z_j ?_|refine s_a ?_|refine s_s ?_|refine s_n ?_|refine s_i ?_|refine s_f ?_|refine s_b ?_|refine s_d ?_|refine s_l1 ?_|refine s_l2 ?_|refine s_l3 ?_|refine s_l4 ?_|refine s_l5 ?_|refine s_l6 ?_|refine s_l7 ?_|refine s_l8 ?_|refine s_l9 ?_|refine s_g ?_|refine s_q ?_|refine s_e ?_|refine s_j ?_)
    refine o_storeS (b := b2) (off := 0) rfl rfl rfl rfl (by repeat (first | exact ones_nil | refine ones_cons (by first | rfl | assumption) ?_)) rfl hb2 (by simp) ?_
    intro wZ huZ
    have hbZ : Blk wZ b2 66 [.int .i64 id, .slice A' n' c'] := huZ.blk
    repeat (first|refine z_1 ?_|refine z_2 ?_|refine s_o ?_|refine z_3 ?_|refine z_4 ?_|refine z_5 ?_|refine z_6 ?_|refine z_7 ?_|refine z_8 ?_|refine z_9 ?_|refine z_a ?_|refine z_b ?_|refine z_d ?_|refine z_e ?_|refine z_f ?_|refine z_g ?_|refine z_h ?_|refine z_i ?_|refine z_j ?_|refine s_a ?_|refine s_s ?_|refine s_n ?_|refine s_i ?_|refine s_f ?_|refine s_b ?_|refine s_d ?_|refine s_l1 ?_|refine s_l2 ?_|refine s_l3 ?_|refine s_l4 ?_|refine s_l5 ?_|refine s_l6 ?_|refine s_l7 ?_|refine s_l8 ?_|refine s_l9 ?_|refine s_g ?_|refine s_q ?_|refine s_e ?_|refine s_j ?_)
    exact retc rfl rfl hbZ.cells rfl ⟨id, .slice A' n' c', _, rfl, (ho.upd huZ (fun e => by have := (ho.lt e).1; omega) (by simp)).below (by omega), by simp; omega, hc3.upd huZ (by omega), hw.updN huZ (by omega)⟩
  repeat (first|refine z_1 ?_|refine z_2 ?_|refine s_o ?_|refine z_3 ?_|refine z_4 ?_|refine z_5 ?_|refine z_6 ?_|refine z_7 ?_|refine z_8 ?_|refine z_9 ?_|refine z_a ?_|refine z_b ?_|refine z_d ?_|refine z_e ?_|refine z_f ?_|refine z_g ?_|refine z_h ?_|refine z_i ?_|refine z_j ?_|refine s_a ?_|refine s_s ?_|refine s_n ?_|refine s_i ?_|refine s_f ?_|refine s_b ?_|refine s_d ?_|refine s_l1 ?_|refine s_l2 ?_|refine s_l3 ?_|refine s_l4 ?_|refine s_l5 ?_|refine s_l6 ?_|refine s_l7 ?_|refine s_l8 ?_|refine s_l9 ?_|refine s_g ?_|refine s_q ?_|refine s_e ?_|refine s_j ?_)
  repeat (first|refine z_1 ?_|refine z_2 ?_|refine s_o ?_|refine z_3 ?_|refine z_4 ?_|refine z_5 ?_|refine z_6 ?_|refine z_7 ?_|refine z_8 ?_|refine z_9 ?_|refine z_a ?_|refine z_b ?_|refine z_d ?_|refine z_e ?_|refine z_f ?_|refine z_g ?_|refine z_h ?_|refine z_i ?_|refine z_j ?_|refine s_a ?_|refine s_s ?_|refine s_n ?_|refine s_i ?_|refine s_f ?_|refine s_b ?_|refine s_d ?_|refine s_l1 ?_|refine s_l2 ?_|refine s_l3 ?_|refine s_l4 ?_|refine s_l5 ?_|refine s_l6 ?_|refine s_l7 ?_|refine s_l8 ?_|refine s_l9 ?_|refine s_g ?_|refine s_q ?_|refine s_e ?_|refine s_j ?_)
  refine o_storeS (b := b2) (off := 0) rfl rfl rfl rfl (by repeat (first | exact ones_nil | refine ones_cons (by first | rfl | assumption) ?_)) rfl hb2 (by simp) ?_
  intro wZ huZ
  have hbZ : Blk wZ b2 66 [.int .i64 id, .slice Au nu cu] := huZ.blk
  repeat (first|refine z_1 ?_|refine z_2 ?_|refine s_o ?_|refine z_3 ?_|refine z_4 ?_|refine z_5 ?_|refine z_6 ?_|refine z_7 ?_|refine z_8 ?_|refine z_9 ?_|refine z_a ?_|refine z_b ?_|refine z_d ?_|refine z_e ?_|refine z_f ?_|refine z_g ?_|refine z_h ?_|refine z_i ?_|refine z_j ?_|refine s_a ?_|refine s_s ?_|refine s_n ?_|refine s_i ?_|refine s_f ?_|refine s_b ?_|refine s_d ?_|refine s_l1 ?_|refine s_l2 ?_|refine s_l3 ?_|refine s_l4 ?_|refine s_l5 ?_|refine s_l6 ?_|refine s_l7 ?_|refine s_l8 ?_|refine s_l9 ?_|refine s_g ?_|refine s_q ?_|refine s_e ?_|refine s_j ?_)
  exact retc rfl rfl hbZ.cells rfl ⟨id, .slice Au nu cu, _, rfl, (ho.upd huZ (fun e => by have := (ho.lt e).1; omega) (by simp)).below (by omega), by omega, hc3.upd huZ (by omega), hw.updN huZ (by omega)⟩

set_option maxHeartbeats 1000000 in
theorem l2Any_ok {w : World} {b : Nat} (hc : Cur w b) :
    Run Try.prog 135 [.pointer (some ⟨b, 0, none⟩)] w (fun r w' => ∃ (L : List Itm) (fi : List Nat), OwnF itemR w' w.heap.size 66 r L fi ∧ L.length ≤ 101 ∧ small L ∧ Cur w' b ∧ Wrs w w' [b]) := by
  have hbl := hc.lt
  refine Run_intro Try.func135 (by unfold CallOk; kernel_rfl) rfl Try.ntmps135 (Nat.le_of_ble_eq_true rfl) ?_
  simp only [penv, Nat.reduceAdd, Nat.zero_add]
  repeat (first|refine z_1 ?_|refine z_2 ?_|refine s_o ?_|refine z_3 ?_|refine z_4 ?_|refine z_5 ?_|refine z_6 ?_|refine z_7 ?_|refine z_8 ?_|refine z_9 ?_|refine z_a ?_|refine z_b ?_|refine z_d ?_|refine z_e ?_|refine z_f ?_|refine z_g ?_|refine z_h ?_|refine z_i ?_|refine z_j ?_|refine s_a ?_|refine s_s ?_|refine s_n ?_|refine s_i ?_|refine s_f ?_|refine s_b ?_|refine s_d ?_|refine s_l1 ?_|refine s_l2 ?_|refine s_l3 ?_|refine s_l4 ?_|refine s_l5 ?_|refine s_l6 ?_|refine s_l7 ?_|refine s_l8 ?_|refine s_l9 ?_|refine s_g ?_|refine s_q ?_|refine s_e ?_|refine s_j ?_)
  refine o_call rfl rfl rfl (l2Items_ok hc (by omega) (by omega)) ?_
  rintro va w1 ⟨L, fi, hoa, hl, hsm, hc1, hw⟩
  have hz1 := hw.size
  repeat (first|refine z_1 ?_|refine z_2 ?_|refine s_o ?_|refine z_3 ?_|refine z_4 ?_|refine z_5 ?_|refine z_6 ?_|refine z_7 ?_|refine z_8 ?_|refine z_9 ?_|refine z_a ?_|refine z_b ?_|refine z_d ?_|refine z_e ?_|refine z_f ?_|refine z_g ?_|refine z_h ?_|refine z_i ?_|refine z_j ?_|refine s_a ?_|refine s_s ?_|refine s_n ?_|refine s_i ?_|refine s_f ?_|refine s_b ?_|refine s_d ?_|refine s_l1 ?_|refine s_l2 ?_|refine s_l3 ?_|refine s_l4 ?_|refine s_l5 ?_|refine s_l6 ?_|refine s_l7 ?_|refine s_l8 ?_|refine s_l9 ?_|refine s_g ?_|refine s_q ?_|refine s_e ?_|refine s_j ?_)
  refine o_call rfl rfl rfl (l1Once_ok hc1 (by omega)) ?_
  rintro _ w2 ⟨q, rfl, hc2, hw2⟩
  have hz2 := hw2.size
  replace hw := hw.trans hw2
  replace hoa := hoa.wrs hw2 (by omega)
  repeat (first|refine z_1 ?_|refine z_2 ?_|refine s_o ?_|refine z_3 ?_|refine z_4 ?_|refine z_5 ?_|refine z_6 ?_|refine z_7 ?_|refine z_8 ?_|refine z_9 ?_|refine z_a ?_|refine z_b ?_|refine z_d ?_|refine z_e ?_|refine z_f ?_|refine z_g ?_|refine z_h ?_|refine z_i ?_|refine z_j ?_|refine s_a ?_|refine s_s ?_|refine s_n ?_|refine s_i ?_|refine s_f ?_|refine s_b ?_|refine s_d ?_|refine s_l1 ?_|refine s_l2 ?_|refine s_l3 ?_|refine s_l4 ?_|refine s_l5 ?_|refine s_l6 ?_|refine s_l7 ?_|refine s_l8 ?_|refine s_l9 ?_|refine s_g ?_|refine s_q ?_|refine s_e ?_|refine s_j ?_)
  refine W_cond rfl (fun h => ?_) (fun h => ?_)
  · repeat (first|refine z_1 ?_|refine z_2 ?_|refine s_o ?_|refine z_3 ?_|refine z_4 ?_|refine z_5 ?_|refine z_6 ?_|refine z_7 ?_|refine z_8 ?_|refine z_9 ?_|refine z_a ?_|refine z_b ?_|refine z_d ?_|refine z_e ?_|refine z_f ?_|refine z_g ?_|refine z_h ?_|refine z_i ?_|refine z_j ?_|refine s_a ?_|refine s_s ?_|refine s_n ?_|refine s_i ?_|refine s_f ?_|refine s_b ?_|refine s_d ?_|refine s_l1 ?_|refine s_l2 ?_|refine s_l3 ?_|refine s_l4 ?_|refine s_l5 ?_|refine s_l6 ?_|refine s_l7 ?_|refine s_l8 ?_|refine s_l9 ?_|refine s_g ?_|refine s_q ?_|refine s_e ?_|refine s_j ?_)
    refine o_call rfl rfl rfl (l2AnyItem_ok hc2) ?_
    rintro _ w3 ⟨id, u, xs, rfl, ho3, hl3, hc3, hw3⟩
    have hdm := hoa.fresh.dom
    have hdo := fun b hb => (hoa.lt (b := b) hb).2
    have hz3 := hw3.size
    replace hw := hw.trans hw3
    replace hoa := hoa.wrs hw3 (by omega)
    obtain ⟨f6, hs6, hf6⟩ := ho3.sl (by decide)
    have o6 := hs6.oneCell
    repeat (first|refine z_1 ?_|refine z_2 ?_|refine s_o ?_|refine z_3 ?_|refine z_4 ?_|refine z_5 ?_|refine z_6 ?_|refine z_7 ?_|refine z_8 ?_|refine z_9 ?_|refine z_a ?_|refine z_b ?_|refine z_d ?_|refine z_e ?_|refine z_f ?_|refine z_g ?_|refine z_h ?_|refine z_i ?_|refine z_j ?_|refine s_a ?_|refine s_s ?_|refine s_n ?_|refine s_i ?_|refine s_f ?_|refine s_b ?_|refine s_d ?_|refine s_l1 ?_|refine s_l2 ?_|refine s_l3 ?_|refine s_l4 ?_|refine s_l5 ?_|refine s_l6 ?_|refine s_l7 ?_|refine s_l8 ?_|refine s_l9 ?_|refine s_g ?_|refine s_q ?_|refine s_e ?_|refine s_j ?_)
    refine o_buildSlice rfl rfl rfl rfl rfl (by simp [Value.cells]) (by omega) ?_
    intro b7 w7 hal7
    have hb7 : Blk w7 b7 66 [.int .i64 id, u] := by simpa [Value.cells] using hal7.blk
    have hz7 := hal7.size
    replace hw := hw.keepR hal7.kp
    replace hoa := hoa.keep hal7.kp
    replace hs6 := hs6.keep hal7.kp
    replace hf6 := hf6.keep hal7.kp
    replace hc3 := hc3.keep hal7.kp
    repeat (first|refine z_1 ?_|refine z_2 ?_|refine s_o ?_|refine z_3 ?_|refine z_4 ?_|refine z_5 ?_|refine z_6 ?_|refine z_7 ?_|refine z_8 ?_|refine z_9 ?_|refine z_a ?_|refine z_b ?_|refine z_d ?_|refine z_e ?_|refine z_f ?_|refine z_g ?_|refine z_h ?_|refine z_i ?_|refine z_j ?_|refine s_a ?_|refine s_s ?_|refine s_n ?_|refine s_i ?_|refine s_f ?_|refine s_b ?_|refine s_d ?_|refine s_l1 ?_|refine s_l2 ?_|refine s_l3 ?_|refine s_l4 ?_|refine s_l5 ?_|refine s_l6 ?_|refine s_l7 ?_|refine s_l8 ?_|refine s_l9 ?_|refine s_g ?_|refine s_q ?_|refine s_e ?_|refine s_j ?_)
    refine o_appendF (R := itemR) (M := w2.heap.size) (gi := f6) rfl rfl rfl rfl rfl (by decide) hoa (Blk.src (xs := [(⟨id, xs⟩ : Itm)]) hb7 (Rows.single (R := itemR) ⟨u, rfl, hs6⟩)) rfl (hf6.mono (by omega)) hdm hdo (fun b hb => hf6.ge hb) (by simp only [List.length_cons, List.length_nil]; omega) (by simp only [List.length_cons, List.length_nil]; omega) (by omega) ?_
    intro v8 w8 ho8 hb8 hg8
    have hrow : ∀ c, va.ownBlock = some c → w.heap.size ≤ c := fun c hc => (hoa.lt hc).1
    repeat (first|refine z_1 ?_|refine z_2 ?_|refine s_o ?_|refine z_3 ?_|refine z_4 ?_|refine z_5 ?_|refine z_6 ?_|refine z_7 ?_|refine z_8 ?_|refine z_9 ?_|refine z_a ?_|refine z_b ?_|refine z_d ?_|refine z_e ?_|refine z_f ?_|refine z_g ?_|refine z_h ?_|refine z_i ?_|refine z_j ?_|refine s_a ?_|refine s_s ?_|refine s_n ?_|refine s_i ?_|refine s_f ?_|refine s_b ?_|refine s_d ?_|refine s_l1 ?_|refine s_l2 ?_|refine s_l3 ?_|refine s_l4 ?_|refine s_l5 ?_|refine s_l6 ?_|refine s_l7 ?_|refine s_l8 ?_|refine s_l9 ?_|refine s_g ?_|refine s_q ?_|refine s_e ?_|refine s_j ?_)
    exact ret1 rfl rfl ⟨L ++ [⟨id, xs⟩], _, ho8, by simp; omega, small_snoc hsm (by show xs.length ≤ 4; omega), hc3.grown hg8 (fun c hc => by have := hrow c hc; omega), hw.grown hg8 hrow⟩
  · repeat (first|refine z_1 ?_|refine z_2 ?_|refine s_o ?_|refine z_3 ?_|refine z_4 ?_|refine z_5 ?_|refine z_6 ?_|refine z_7 ?_|refine z_8 ?_|refine z_9 ?_|refine z_a ?_|refine z_b ?_|refine z_d ?_|refine z_e ?_|refine z_f ?_|refine z_g ?_|refine z_h ?_|refine z_i ?_|refine z_j ?_|refine s_a ?_|refine s_s ?_|refine s_n ?_|refine s_i ?_|refine s_f ?_|refine s_b ?_|refine s_d ?_|refine s_l1 ?_|refine s_l2 ?_|refine s_l3 ?_|refine s_l4 ?_|refine s_l5 ?_|refine s_l6 ?_|refine s_l7 ?_|refine s_l8 ?_|refine s_l9 ?_|refine s_g ?_|refine s_q ?_|refine s_e ?_|refine s_j ?_)
    exact ret1 rfl rfl ⟨L, fi, hoa, by omega, hsm, hc2, hw⟩
end Go.E

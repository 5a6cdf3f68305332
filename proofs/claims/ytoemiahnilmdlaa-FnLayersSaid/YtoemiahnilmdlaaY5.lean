/-
  Contracts: lists of items without some, layers. Conditions: as stated.
-/
import Derived.Test.YtoemiahnilmdlaaX1
import Derived.Test.YtoemiahnilmdlaaL9
import Derived.Test.YtoemiahnilmdlaaAg
set_option linter.unusedVariables false
set_option linter.unusedSimpArgs false
namespace Go.E
open Go Go.RowKit Go.Proofs
def only (ids : List Int) (q : Bool) (L : List Itm) : List Itm := L.filter fun x => hasI ids x.id == q
theorem only_step {ids : List Int} {q : Bool} {L : List Itm} {k : Nat} (h : k < L.length) : only ids q (L.take (k + 1)) = only ids q (L.take k) ++ (if hasI ids (gi L (k : Int)).id == q then [gi L (k : Int)] else []) := by
  rw [take_gi h, only, List.filter_append, List.filter_cons, List.filter_nil]; rfl
theorem only_t {ids : List Int} {q : Bool} {L : List Itm} {k : Nat} (h : k < L.length) (hd : (hasI ids (gi L (k : Int)).id == q) = true) : only ids q (L.take (k + 1)) = only ids q (L.take k) ++ [gi L (k : Int)] := by rw [only_step h, if_pos hd]
theorem only_f {ids : List Int} {q : Bool} {L : List Itm} {k : Nat} (h : k < L.length) (hd : (hasI ids (gi L (k : Int)).id == q) = false) : only ids q (L.take (k + 1)) = only ids q (L.take k) := by rw [only_step h, if_neg (by simp [hd]), List.append_nil]
theorem only_len (ids : List Int) (q : Bool) (L : List Itm) : (only ids q L).length ≤ L.length := List.length_filter_le _ _
theorem only_nil (ids : List Int) (q : Bool) : only ids q [] = [] := rfl
attribute [local irreducible] W WL WD WE thenE inE retQ PureOp Keep Cell Cells Blk Sl Rows Own Src Fresh
attribute [local irreducible] only hasI

set_option maxHeartbeats 1000000 in
theorem l2One_ok {w : World} {v : Value} {id : Int} {xs : List Int} {fp : List Nat} (hx : Sl intR w v xs fp) (hn : xs.length ≤ 1048576) :
    Run Try.prog 231 [.int .i64 id, v] w (fun r w' => Keep w w' ∧ ∃ u f, r = .agg #[.int .i64 id, u] ∧ Sl intR w' u xs f ∧ Fresh w.heap.size w' f) := by
  obtain ⟨A, n, c, rfl, hnx⟩ := hx.split
  refine Run_intro Try.func231 (by unfold CallOk; kernel_rfl) rfl Try.ntmps231 (Nat.le_of_ble_eq_true rfl) ?_
  simp only [penv, Nat.reduceAdd, Nat.zero_add]
  repeat refine zz ?_
  refine o_alloc rfl rfl ?_
  intro b2 w2 hal2
  have hb2 := hal2.blk
  have hs2 := hal2.b_eq
  have hz2 := hal2.size
  have hk := hal2.kp
  replace hx := hx.keep hal2.kp
  repeat refine zz ?_
  refine o_buildSlice rfl rfl rfl rfl rfl (by intro p hp; cases hp) (by omega) ?_
  intro bO wO halO
  have hkO := halO.kp
  have hzO := halO.size
  have ho : OwnF intR wO w2.heap.size 3 (.slice (some ⟨bO, 0, none⟩) 0 0) [] [] := OwnF.made halO.blk (by have := halO.b_eq; omega)
  have heO := halO.b_eq
  replace hk := hk.keep hkO
  replace hx := hx.keep hkO
  replace hb2 := hb2.keep hkO
  repeat refine zz ?_
  refine o_appendF (R := intR) (M := _) (gi := []) rfl rfl rfl rfl rfl (by decide) ho hx.srcI hnx (Fresh.nil _ _) (fun b hb => by simp at hb) (fun b hb => (ho.lt hb).2) (fun b hb => by simp at hb) (by simp only [List.length_nil]; omega) (by simp only [List.length_nil]; omega) (by omega) ?_
  intro vN wN hoN hbN hgN
  have hkN := hk.below hbN (by omega)
  have hb2N := hb2.grown hgN (by simp [Value.ownBlock]; omega)
  obtain ⟨A', n', c', rfl, _⟩ := hoN.split
  repeat refine zz ?_
  refine WL_pure rfl rfl (o_buildT (cs := [.int .i64 id, .slice A' n' c']) rfl rfl) ?_
  repeat refine zz ?_
  refine o_storeS (b := b2) (off := 0) rfl rfl rfl rfl (fun v hv => ?_) rfl hb2N (by simp) ?_
  · simp only [List.mem_cons, List.not_mem_nil, or_false] at hv
    rcases hv with rfl | rfl
    · rfl
    · rfl
  intro w7 hu7
  have hb2' : Blk w7 b2 _ [.int .i64 id, .slice A' n' c'] := hu7.blk
  have ho7 := hoN.upd hu7 (fun e => by have := (hoN.lt e).1; omega) (by simp)
  have hk7 := hkN.upd hu7 (by omega)
  obtain ⟨f, hs, hf⟩ := ho7.sl (by decide)
  repeat refine zz ?_
  exact retc rfl rfl hb2'.cells rfl ⟨hk7, _, f, rfl, hs, hf.mono (by omega)⟩

set_option maxHeartbeats 1000000 in
theorem l10Without_ok {w : World} {v u : Value} {L : List Itm} {ids : List Int} {fp gp : List Nat} (hL : Sl itemR w v L fp) (hi : Sl intR w u ids gp) (hit : ∀ i : Nat, i < L.length → isItem (gi L (i : Int)) = true) (hln : L.length ≤ 16) :
    Run Try.prog 177 [v, u] w (fun r w' => Keep w w' ∧ ∃ f, Sl itemR w' r (only ids false L) f ∧ ∀ b, b ∈ f → w.heap.size ≤ b ∨ b ∈ fp) := by
  obtain ⟨A, n, c, rfl, hnx⟩ := hL.split
  refine Run_intro Try.func177 (by unfold CallOk; kernel_rfl) rfl Try.ntmps177 (Nat.le_of_ble_eq_true rfl) ?_
  simp only [penv, Nat.reduceAdd, Nat.zero_add]
  repeat refine zz ?_
  refine o_buildSlice rfl rfl rfl rfl rfl (by intro p hp; cases hp) (by omega) ?_
  intro bO wO halO
  have hkO := halO.kp
  have ho : OwnF itemR wO w.heap.size 50 (.slice (some ⟨bO, 0, none⟩) 0 0) [] [] := OwnF.made halO.blk (by have := halO.b_eq; omega)
  repeat refine zz ?_
  refine W_loop (S := Nat × Value) (fun s => [(0, .slice A n c), (1, u), (5, s.2), (6, .int .i64 (s.1 : Int))]) (fun s w' => Keep w w' ∧ s.1 ≤ n ∧ ∃ fi, OwnF itemR w' w.heap.size 50 s.2 (only ids false (L.take s.1)) fi) (fun s => n - s.1) (0, _) ⟨rfl, rfl, rfl, rfl, trivial⟩ ⟨hkO, Nat.zero_le _, [], by rw [List.take_zero, only_nil]; exact ho⟩ ?_
  clear ho halO hkO
  rintro ⟨k, va⟩ wa ⟨hka, hkn, fi, hoa⟩
  dsimp only at hkn hoa ⊢
  have hol := only_len ids false (L.take k)
  rw [List.length_take] at hol
  repeat refine zz ?_
  refine W_cond rfl (fun hc => ?_) (fun hc => ?_)
  · have hkl : k < n := by simp at hc; omega
    obtain ⟨hA1, u1, f1, hcell1, hu1, _⟩ := item_get (hL.keep hka) (i := (k : Int)) (by omega) (by omega)
    have hl3 := isItem_len (hit k (by omega))
    repeat refine zz ?_
    refine o_call rfl rfl rfl (l2Has_ok (hi.keep hka)) ?_
    rintro _ _ ⟨rfl, rfl⟩
    repeat refine zz ?_
    refine W_cond rfl (fun hd => ?_) (fun hd => ?_)
    · simp at hd
      repeat refine zz ?_
      refine W_late (Keep wa) [13] (by kernel_rfl) (Keep.drew wa) ?_
      first|refine e_o 0 ?_|refine e_a 0 ?_|refine e_s 0 ?_|refine e_n 0 ?_|refine e_i 0 ?_|refine e_f 0 ?_|refine e_b 0 ?_|refine e_d 0 ?_|refine e_l1 0 ?_|refine e_l2 0 ?_|refine e_l3 0 ?_|refine e_l4 0 ?_|refine e_l5 0 ?_|refine e_l6 0 ?_|refine e_l7 0 ?_|refine e_l8 0 ?_|refine e_l9 0 ?_|refine e_g 0 ?_|refine e_q 0 ?_|refine e_e 0 ?_|refine e_j 0 ?_
      first|refine e_o 1 ?_|refine e_a 1 ?_|refine e_s 1 ?_|refine e_n 1 ?_|refine e_i 1 ?_|refine e_f 1 ?_|refine e_b 1 ?_|refine e_d 1 ?_|refine e_l1 1 ?_|refine e_l2 1 ?_|refine e_l3 1 ?_|refine e_l4 1 ?_|refine e_l5 1 ?_|refine e_l6 1 ?_|refine e_l7 1 ?_|refine e_l8 1 ?_|refine e_l9 1 ?_|refine e_g 1 ?_|refine e_q 1 ?_|refine e_e 1 ?_|refine e_j 1 ?_
      first|refine e_o 2 ?_|refine e_a 2 ?_|refine e_s 2 ?_|refine e_n 2 ?_|refine e_i 2 ?_|refine e_f 2 ?_|refine e_b 2 ?_|refine e_d 2 ?_|refine e_l1 2 ?_|refine e_l2 2 ?_|refine e_l3 2 ?_|refine e_l4 2 ?_|refine e_l5 2 ?_|refine e_l6 2 ?_|refine e_l7 2 ?_|refine e_l8 2 ?_|refine e_l9 2 ?_|refine e_g 2 ?_|refine e_q 2 ?_|refine e_e 2 ?_|refine e_j 2 ?_
      first|refine e_o 3 ?_|refine e_a 3 ?_|refine e_s 3 ?_|refine e_n 3 ?_|refine e_i 3 ?_|refine e_f 3 ?_|refine e_b 3 ?_|refine e_d 3 ?_|refine e_l1 3 ?_|refine e_l2 3 ?_|refine e_l3 3 ?_|refine e_l4 3 ?_|refine e_l5 3 ?_|refine e_l6 3 ?_|refine e_l7 3 ?_|refine e_l8 3 ?_|refine e_l9 3 ?_|refine e_g 3 ?_|refine e_q 3 ?_|refine e_e 3 ?_|refine e_j 3 ?_
      first|refine e_o 4 ?_|refine e_a 4 ?_|refine e_s 4 ?_|refine e_n 4 ?_|refine e_i 4 ?_|refine e_f 4 ?_|refine e_b 4 ?_|refine e_d 4 ?_|refine e_l1 4 ?_|refine e_l2 4 ?_|refine e_l3 4 ?_|refine e_l4 4 ?_|refine e_l5 4 ?_|refine e_l6 4 ?_|refine e_l7 4 ?_|refine e_l8 4 ?_|refine e_l9 4 ?_|refine e_g 4 ?_|refine e_q 4 ?_|refine e_e 4 ?_|refine e_j 4 ?_
      first|refine e_o 5 ?_|refine e_a 5 ?_|refine e_s 5 ?_|refine e_n 5 ?_|refine e_i 5 ?_|refine e_f 5 ?_|refine e_b 5 ?_|refine e_d 5 ?_|refine e_l1 5 ?_|refine e_l2 5 ?_|refine e_l3 5 ?_|refine e_l4 5 ?_|refine e_l5 5 ?_|refine e_l6 5 ?_|refine e_l7 5 ?_|refine e_l8 5 ?_|refine e_l9 5 ?_|refine e_g 5 ?_|refine e_q 5 ?_|refine e_e 5 ?_|refine e_j 5 ?_
      first|refine e_o 6 ?_|refine e_a 6 ?_|refine e_s 6 ?_|refine e_n 6 ?_|refine e_i 6 ?_|refine e_f 6 ?_|refine e_b 6 ?_|refine e_d 6 ?_|refine e_l1 6 ?_|refine e_l2 6 ?_|refine e_l3 6 ?_|refine e_l4 6 ?_|refine e_l5 6 ?_|refine e_l6 6 ?_|refine e_l7 6 ?_|refine e_l8 6 ?_|refine e_l9 6 ?_|refine e_g 6 ?_|refine e_q 6 ?_|refine e_e 6 ?_|refine e_j 6 ?_
      first|refine e_o 7 ?_|refine e_a 7 ?_|refine e_s 7 ?_|refine e_n 7 ?_|refine e_i 7 ?_|refine e_f 7 ?_|refine e_b 7 ?_|refine e_d 7 ?_|refine e_l1 7 ?_|refine e_l2 7 ?_|refine e_l3 7 ?_|refine e_l4 7 ?_|refine e_l5 7 ?_|refine e_l6 7 ?_|refine e_l7 7 ?_|refine e_l8 7 ?_|refine e_l9 7 ?_|refine e_g 7 ?_|refine e_q 7 ?_|refine e_e 7 ?_|refine e_j 7 ?_
      first|refine e_o 8 ?_|refine e_a 8 ?_|refine e_s 8 ?_|refine e_n 8 ?_|refine e_i 8 ?_|refine e_f 8 ?_|refine e_b 8 ?_|refine e_d 8 ?_|refine e_l1 8 ?_|refine e_l2 8 ?_|refine e_l3 8 ?_|refine e_l4 8 ?_|refine e_l5 8 ?_|refine e_l6 8 ?_|refine e_l7 8 ?_|refine e_l8 8 ?_|refine e_l9 8 ?_|refine e_g 8 ?_|refine e_q 8 ?_|refine e_e 8 ?_|refine e_j 8 ?_
      first|refine e_o 9 ?_|refine e_a 9 ?_|refine e_s 9 ?_|refine e_n 9 ?_|refine e_i 9 ?_|refine e_f 9 ?_|refine e_b 9 ?_|refine e_d 9 ?_|refine e_l1 9 ?_|refine e_l2 9 ?_|refine e_l3 9 ?_|refine e_l4 9 ?_|refine e_l5 9 ?_|refine e_l6 9 ?_|refine e_l7 9 ?_|refine e_l8 9 ?_|refine e_l9 9 ?_|refine e_g 9 ?_|refine e_q 9 ?_|refine e_e 9 ?_|refine e_j 9 ?_
      first|refine e_o 10 ?_|refine e_a 10 ?_|refine e_s 10 ?_|refine e_n 10 ?_|refine e_i 10 ?_|refine e_f 10 ?_|refine e_b 10 ?_|refine e_d 10 ?_|refine e_l1 10 ?_|refine e_l2 10 ?_|refine e_l3 10 ?_|refine e_l4 10 ?_|refine e_l5 10 ?_|refine e_l6 10 ?_|refine e_l7 10 ?_|refine e_l8 10 ?_|refine e_l9 10 ?_|refine e_g 10 ?_|refine e_q 10 ?_|refine e_e 10 ?_|refine e_j 10 ?_
      have kd : Keep wa wa.drew := Keep.drew wa
      replace hu1 := hu1.keep kd
      replace hoa := hoa.keep kd
      replace hka := hka.keep kd
      refine WE_one 11 (by kernel_rfl) rfl ?_
      refine o_call rfl rfl rfl (l2One_ok hu1 (by omega)) ?_
      rintro _ w4 ⟨hk4, u4, f4, rfl, hs4, hf4⟩
      have hdm := hoa.fresh.dom
      have hdo := fun b hb => (hoa.lt (b := b) hb).2
      have hz4 := hk4.size_le
      have hzk := hka.size_le
      replace kd := kd.keep hk4
      replace hoa := hoa.keep hk4
      replace hka := hka.keep hk4
      have o4 := hs4.oneCell
      refine WL_end ⟨kd, ?_⟩
      refine WE_one 12 (by kernel_rfl) rfl ?_
      refine o_buildSlice rfl rfl rfl rfl rfl (by simp [Value.cells]) (by omega) ?_
      intro b5 w5 hal5
      have hb5 : Blk w5 b5 50 [.int .i64 (gi L (k : Int)).id, u4] := by simpa [Value.cells] using hal5.blk
      have hz5 := hal5.size
      have hkz := hka.size_le
      replace hoa := hoa.keep hal5.kp
      replace hka := hka.keep hal5.kp
      replace hs4 := hs4.keep hal5.kp
      replace hf4 := hf4.keep hal5.kp
      refine WL_end ⟨kd.keep hal5.kp, ?_⟩
      refine WE_last 13 (by kernel_rfl) rfl (by kernel_rfl) ?_
      refine o_appendF (R := itemR) (M := wa.drew.heap.size) (gi := f4) rfl rfl rfl rfl rfl (by decide) hoa (Blk.src (xs := [gi L (k : Int)]) hb5 (Rows.single (R := itemR) ⟨u4, rfl, hs4⟩)) rfl (hf4.mono (by omega)) hdm hdo (fun b hb => hf4.ge hb) (by simp only [List.length_cons, List.length_nil]; omega) (by simp only [List.length_cons, List.length_nil]; omega) (by omega) ?_
      intro v6 w6 ho6 hb6 hg6
      have hk6 : Keep w w6 := hka.grown hg6 (fun b hb => (hoa.lt hb).1)
      refine WL_end ?_
      first|refine e_o 14 ?_|refine e_a 14 ?_|refine e_s 14 ?_|refine e_n 14 ?_|refine e_i 14 ?_|refine e_f 14 ?_|refine e_b 14 ?_|refine e_d 14 ?_|refine e_l1 14 ?_|refine e_l2 14 ?_|refine e_l3 14 ?_|refine e_l4 14 ?_|refine e_l5 14 ?_|refine e_l6 14 ?_|refine e_l7 14 ?_|refine e_l8 14 ?_|refine e_l9 14 ?_|refine e_g 14 ?_|refine e_q 14 ?_|refine e_e 14 ?_|refine e_j 14 ?_
      refine WE_done (by kernel_rfl) ?_
      repeat refine zz ?_
      exact ⟨(k + 1, v6), ⟨rfl, rfl, rfl, rfl, trivial⟩, ⟨hk6, by dsimp only; omega, _, by dsimp only; rw [only_t (by omega) (by rw [hd]; rfl)]; exact ho6⟩, by dsimp only; omega⟩
    · simp at hd
      repeat refine zz ?_
      exact ⟨(k + 1, va), ⟨rfl, rfl, rfl, rfl, trivial⟩, ⟨hka, by dsimp only; omega, fi, by dsimp only; rw [only_f (by omega) (by rw [hd]; rfl)]; exact hoa⟩, by dsimp only; omega⟩
  · simp at hc
    obtain rfl : k = n := by omega
    repeat refine zz ?_
    rw [List.take_of_length_le (by omega)] at hoa
    obtain ⟨f, hs, hf⟩ := hoa.sl (by decide)
    exact ret1 rfl rfl ⟨hka, f, hs, fun b hb => .inl (hf.ge hb)⟩

set_option maxHeartbeats 1000000 in
theorem only_ok {w : World} {v u : Value} {L : List Itm} {ids : List Int} {q : Bool} {fp gp : List Nat} (hL : Sl itemR w v L fp) (hi : Sl intR w u ids gp) (hln : L.length ≤ 16) :
    Run Try.prog 175 [v, u, .bool q] w (fun r w' => Keep w w' ∧ ∃ f, Sl itemR w' r (only ids q L) f ∧ ∀ b, b ∈ f → w.heap.size ≤ b ∨ b ∈ fp) := by
  have hdL := hL.dom
  obtain ⟨A, n, c, rfl, hnx⟩ := hL.split
  refine Run_intro Try.func175 (by unfold CallOk; kernel_rfl) rfl Try.ntmps175 (Nat.le_of_ble_eq_true rfl) ?_
  simp only [penv, Nat.reduceAdd, Nat.zero_add]
  repeat refine zz ?_
  refine o_buildSlice rfl rfl rfl rfl rfl (by intro p hp; cases hp) (by omega) ?_
  intro bO wO halO
  have hkO := halO.kp
  have ho : Own itemR wO w.heap.size 50 (.slice (some ⟨bO, 0, none⟩) 0 0) [] [] := Own.made halO.blk (by simp) (Nat.zero_le _) (by have := halO.b_eq; omega)
  repeat refine zz ?_
  refine W_loop (S := Nat × Value) (fun s => [(0, .slice A n c), (1, u), (2, .bool q), (7, s.2), (11, .slice A n c), (12, .int .i64 n), (13, .int .i64 (s.1 : Int))]) (fun s w' => Keep w w' ∧ s.1 ≤ n ∧ ∃ fi, Own itemR w' w.heap.size 50 s.2 (only ids q (L.take s.1)) fi ∧ ∀ b, b ∈ fi → b ∈ fp) (fun s => n - s.1) (0, _) ⟨rfl, rfl, rfl, rfl, rfl, rfl, rfl, trivial⟩ ⟨hkO, Nat.zero_le _, [], by rw [List.take_zero, only_nil]; exact ho, fun b hb => by simp at hb⟩ ?_
  clear ho halO hkO
  rintro ⟨k, va⟩ wa ⟨hka, hkn, fi, hoa, hfi⟩
  dsimp only at hkn hoa ⊢
  have hol := only_len ids q (L.take k)
  rw [List.length_take] at hol
  repeat refine zz ?_
  refine W_cond rfl (fun hc => ?_) (fun hc => ?_)
  · have hkl : k < n := by simp at hc; omega
    obtain ⟨hA, u2, f2, hcell, hu2, hf2⟩ := item_get (hL.keep hka) (i := (k : Int)) (by omega) (by omega)
    have o2 := hu2.oneCell
    repeat refine zz ?_
    refine o_alloc rfl rfl ?_
    intro bR wR halR
    have hbR0 := halR.blk
    repeat refine zz ?_
    refine o_storeS (b := bR) (off := 0) rfl rfl rfl rfl (by repeat (first | exact ones_nil | refine ones_cons (by first | rfl | assumption) ?_)) rfl hbR0 (by simp) ?_
    intro wS huS
    have hbR : Blk wS bR _ [.int .i64 (gi L (k : Int)).id, u2] := huS.blk
    have hkS := halR.kp.upd huS (Nat.le_of_eq halR.b_eq.symm)
    have hRe := halR.b_eq
    clear hbR0 huS halR
    replace hka := hka.keep hkS
    replace hoa := hoa.keep hkS
    replace hu2 := hu2.keep hkS
    clear hcell
    have hb2 := hbR
    clear hbR hRe hkS
    repeat refine zz ?_
    refine o_call rfl rfl rfl (slices_Contains_ok (hi.keep hka)) ?_
    rintro _ _ ⟨rfl, rfl⟩
    repeat refine zz ?_
    refine W_cond rfl (fun hd => ?_) (fun hd => ?_)
    · repeat refine zz ?_
      refine o_buildSlice rfl rfl rfl rfl rfl (by simp [Value.cells]) (by omega) ?_
      intro b5 w5 hal5
      have hb5 : Blk w5 b5 50 [.int .i64 (gi L (k : Int)).id, u2] := by simpa [Value.cells] using hal5.blk
      have hz5 := hal5.size
      have hkz := hka.size_le
      replace hoa := hoa.keep hal5.kp
      replace hka := hka.keep hal5.kp
      replace hu2 := hu2.keep hal5.kp
      repeat refine zz ?_
      refine o_append (R := itemR) rfl rfl rfl rfl rfl (by decide) hoa (Blk.src (xs := [gi L (k : Int)]) hb5 (Rows.single (R := itemR) ⟨u2, rfl, hu2⟩)) rfl (fun b hb => ⟨fun hm => by have := (hoa.lt hb).1; have := hdL b (hfi b hm); omega, fun hm => by have := (hoa.lt hb).1; have := hdL b (hf2 b hm); omega⟩) (by simp only [List.length_cons, List.length_nil]; omega) (by simp only [List.length_cons, List.length_nil]; omega) (by omega) ?_
      intro v6 w6 ho6 hg6 _
      have hk6 : Keep w w6 := hka.grown hg6 (fun b hb => (hoa.lt hb).1)
      repeat refine zz ?_
      exact ⟨(k + 1, v6), ⟨rfl, rfl, rfl, rfl, rfl, rfl, rfl, trivial⟩, ⟨hk6, by dsimp only; omega, _, by dsimp only; rw [only_t (by omega) hd]; exact ho6, fun b hb => (List.mem_append.1 hb).elim (hfi b) fun h => hf2 b h⟩, by dsimp only; omega⟩
    · repeat refine zz ?_
      exact ⟨(k + 1, va), ⟨rfl, rfl, rfl, rfl, rfl, rfl, rfl, trivial⟩, ⟨hka, by dsimp only; omega, fi, by dsimp only; rw [only_f (by omega) hd]; exact hoa, hfi⟩, by dsimp only; omega⟩
  · simp at hc
    obtain rfl : k = n := by omega
    repeat refine zz ?_
    rw [List.take_of_length_le (by omega)] at hoa
    obtain ⟨f, hs, hf, _⟩ := hoa.sl (by decide)
    exact ret1 rfl rfl ⟨hka, f, hs, fun b hb => (hf b hb).elim (fun h => .inl (hoa.lt h).1) fun h => .inr (hfi b h)⟩
end Go.E

/-
  Contracts of the laws' helpers on pairs, wishes, nodes and lists of nodes: sizes and copies. Conditions: as stated.
-/
import Derived.Test.YtomkdoppjimhoaaNa
import Derived.Test.YtomkdoppjimhoaaLi
set_option linter.unusedVariables false
set_option linter.unusedSimpArgs false
namespace Go.E
open Go Go.RowKit Go.Proofs
theorem szN_szN {k : Int} {a b : Nat} (h : ¬ szN k a < 0) : szN (szN k a) b = szN k (a + b) := by
  unfold szN at h ⊢
  by_cases h1 : k - (a : Int) < 0
  · rw [if_pos h1] at h; omega
  · rw [if_neg h1]
    by_cases h2 : k - (a : Int) - (b : Int) < 0
    · rw [if_pos h2, if_pos (by omega)]
    · rw [if_neg h2, if_neg (by omega)]; omega
theorem szN_neg {k : Int} {a b : Nat} (h : szN k a < 0) : szN k (a + b) = -1 := by
  unfold szN at h ⊢
  split at h
  · rw [if_pos (by omega)]
  · omega
theorem szN_m1 {k : Int} {a : Nat} (h : szN k a < 0) : szN k a = -1 := by
  unfold szN at h ⊢
  split
  · rfl
  · rename_i h'; rw [if_neg h'] at h; omega
attribute [local irreducible] W WL WD WE thenE inE retQ PureOp Keep Cell Cells Blk Sl Rows Own Src Fresh

theorem szPairS_ok {w : World} {v : Value} {xs : List (Int × Int)} {fp : List Nat} {k : Int} (hx : Sl pairR w v xs fp) (h0 : 0 ≤ k) (h1 : k ≤ 1048576) : Run Try.prog 135 [v, .int .i64 k] w (fun r w' => r = .int .i64 (szN k xs.length) ∧ w = w') := by
  have hn := hx.le
  obtain ⟨A, n, c, rfl, hnx⟩ := hx.split
  refine Run_intro Try.func135 (by unfold CallOk; kernel_rfl) rfl Try.ntmps135 (Nat.le_of_ble_eq_true rfl) ?_
  simp only [penv, Nat.reduceAdd, Nat.zero_add]
  repeat refine zz ?_
  refine W_cond rfl (fun hc => ?_) (fun hc => ?_)
  · simp at hc
    repeat refine zz ?_
    exact ret1 rfl rfl ⟨by rw [szN, if_pos (by omega)], rfl⟩
  · simp at hc
    repeat refine zz ?_
    exact ret1 rfl rfl ⟨by rw [szN, if_neg (by omega), hnx], rfl⟩

theorem szWish_ok {w : World} {v u : Value} {x : Wsh} {f1 f2 : List Nat} {k : Int} (hl : Sl intR w v x.list f1) (hp : Sl pairR w u x.pairs f2) (h0 : 0 ≤ k) (h1 : k ≤ 1048576) :
    Run Try.prog 103 [.agg #[.int .i64 x.kind, .int .i64 x.field, .int .i64 x.value, v, u], .int .i64 k] w (fun r w' => r = .int .i64 (szN k (totW x)) ∧ Keep w w') := by
  refine Run_intro Try.func103 (by unfold CallOk; kernel_rfl) rfl Try.ntmps103 (Nat.le_of_ble_eq_true rfl) ?_
  simp only [penv, Nat.reduceAdd, Nat.zero_add]
  repeat refine zz ?_
  refine o_boxS rfl rfl rfl ?_
  intro b w1 hal
  have hb := hal.blk
  have hk := hal.kp
  replace hl := hl.keep hk
  replace hp := hp.keep hk
  repeat refine zz ?_
  refine o_call rfl rfl rfl (szIntS_ok hl h0 h1) ?_
  rintro _ _ ⟨rfl, rfl⟩
  repeat refine zz ?_
  refine W_cond rfl (fun hc => ?_) (fun hc => ?_)
  · simp only [decide_eq_true_eq] at hc
    repeat refine zz ?_
    exact ret1 rfl rfl ⟨by rw [totW, szN_neg hc], hk⟩
  · simp only [decide_eq_false_iff_not] at hc
    have hb1 := szN_bd hc h1
    repeat refine zz ?_
    refine o_call rfl rfl rfl (szPairS_ok hp hb1.1 hb1.2) ?_
    rintro _ _ ⟨rfl, rfl⟩
    rw [szN_szN hc]
    repeat refine zz ?_
    refine W_cond rfl (fun hd => ?_) (fun hd => ?_)
    · simp only [decide_eq_true_eq] at hd
      repeat refine zz ?_
      exact ret1 rfl rfl ⟨by rw [totW, szN_m1 hd], hk⟩
    · repeat refine zz ?_
      exact ret1 rfl rfl ⟨rfl, hk⟩

theorem szNode_ok {w : World} {v u : Value} {x : Nod} {f1 f2 : List Nat} {k : Int} (hl : Sl intR w v x.wish.list f1) (hp : Sl pairR w u x.wish.pairs f2) (h0 : 0 ≤ k) (h1 : k ≤ 1048576) :
    Run Try.prog 47 [.agg #[.int .i64 x.op, .int .i64 x.wish.kind, .int .i64 x.wish.field, .int .i64 x.wish.value, v, u], .int .i64 k] w (fun r w' => r = .int .i64 (szN k (totW x.wish)) ∧ Keep w w') := by
  refine Run_intro Try.func47 (by unfold CallOk; kernel_rfl) rfl Try.ntmps47 (Nat.le_of_ble_eq_true rfl) ?_
  simp only [penv, Nat.reduceAdd, Nat.zero_add]
  repeat refine zz ?_
  refine o_boxS rfl rfl rfl ?_
  intro b w1 hal
  have hb := hal.blk
  have hk := hal.kp
  replace hl := hl.keep hk
  replace hp := hp.keep hk
  repeat refine zz ?_
  refine o_call rfl rfl rfl (szWish_ok hl hp h0 h1) ?_
  rintro _ w2 ⟨rfl, hk2⟩
  replace hk := hk.keep hk2
  repeat refine zz ?_
  refine W_cond rfl (fun hd => ?_) (fun hd => ?_)
  · simp only [decide_eq_true_eq] at hd
    repeat refine zz ?_
    exact ret1 rfl rfl ⟨by rw [szN_m1 hd], hk⟩
  · repeat refine zz ?_
    exact ret1 rfl rfl ⟨rfl, hk⟩

theorem szNodeS_ok {w : World} {v : Value} {L : List Nod} {fp : List Nat} {k : Int} (hx : Sl nodeR w v L fp) (h0 : 0 ≤ k) (h1 : k ≤ 1048576) : Run Try.prog 8 [v, .int .i64 k] w (fun r w' => r = .int .i64 (szN k (L.length + totN L)) ∧ Keep w w') := by
  have hn := hx.le
  obtain ⟨A, n, c, rfl, hnx⟩ := hx.split
  refine Run_intro Try.func8 (by unfold CallOk; kernel_rfl) rfl Try.ntmps8 (Nat.le_of_ble_eq_true rfl) ?_
  simp only [penv, Nat.reduceAdd, Nat.zero_add]
  repeat refine zz ?_
  refine W_cond rfl (fun hc => ?_) (fun hc => ?_)
  · simp at hc
    repeat refine zz ?_
    exact ret1 rfl rfl ⟨by rw [szN, if_pos (by omega)], Keep.refl _⟩
  · simp at hc
    repeat refine zz ?_
    refine W_loop (S := Nat) (fun i => [(0, .slice A n c), (1, .int .i64 (k - n - (totN (L.take i) : Int))), (5, .int .i64 (i : Int))]) (fun i w' => Keep w w' ∧ i ≤ n ∧ 0 ≤ k - n - (totN (L.take i) : Int)) (fun i => n - i) 0 ⟨rfl, find_int rfl (by simp [totN]), rfl, trivial⟩ ⟨Keep.refl _, Nat.zero_le _, by simp [totN]; omega⟩ ?_
    rintro i w1 ⟨hk1, hi, hpos⟩
    replace hx := hx.keep hk1
    repeat refine zz ?_
    refine W_cond rfl (fun hc2 => ?_) (fun hc2 => ?_)
    · have hin : i < n := by simp at hc2; omega
      obtain ⟨hA, vl, ul, f1, f2, hcell, hvl, hul, _⟩ := node_get hx (i := (i : Int)) (by omega) (by omega)
      have htk := totN_take (L := L) (k := i) (by omega)
      have htl := totN_take_le L (i + 1)
      repeat refine zz ?_
      refine o_call rfl rfl rfl (szNode_ok hvl hul hpos (by omega)) ?_
      rintro _ w2 ⟨rfl, hk2⟩
      replace hk1 := hk1.keep hk2
      repeat refine zz ?_
      refine W_cond rfl (fun hc3 => ?_) (fun hc3 => ?_)
      · simp at hc3
        repeat refine zz ?_
        refine ret1 rfl rfl ⟨?_, hk1⟩
        unfold szN at hc3
        rw [szN, if_pos (by split at hc3 <;> omega)]
      · simp at hc3
        have hz : szN (k - n - (totN (L.take i) : Int)) (totW (gi L (i : Int)).wish) = k - n - (totN (L.take (i + 1)) : Int) := by
          unfold szN at hc3 ⊢
          split
          · rename_i h; rw [if_pos h] at hc3; omega
          · rw [htk]; omega
        rw [hz] at hc3
        repeat refine zz ?_
        exact ⟨i + 1, ⟨rfl, find_int rfl hz, rfl, trivial⟩, ⟨hk1, by omega, hc3⟩, by omega⟩
    · simp at hc2
      obtain rfl : i = n := by omega
      rw [List.take_of_length_le (by omega)] at hpos ⊢
      repeat refine zz ?_
      refine ret1 rfl rfl ⟨?_, hk1⟩
      rw [szN, if_neg (by omega)]
      congr 1; omega

theorem toPair_ok {w : World} (x : Int × Int) :
    Run Try.prog 164 [.agg #[.int .i64 x.1, .int .i64 x.2]] w (fun r w' => r = .agg #[.int .i64 x.1, .int .i64 x.2] ∧ Keep w w') := by
  refine Run_intro Try.func164 (by unfold CallOk; kernel_rfl) rfl Try.ntmps164 (Nat.le_of_ble_eq_true rfl) ?_
  simp only [penv, Nat.reduceAdd, Nat.zero_add]
  repeat refine zz ?_
  refine o_boxS rfl rfl rfl ?_
  intro b1 w1 hal1
  have hb1 := hal1.blk
  have hk := hal1.kp
  have hz1 := hk.size_le
  repeat refine zz ?_
  refine o_alloc rfl rfl ?_
  intro b2 w2 hal2
  have hb2 := hal2.blk
  have hs2 := hal2.b_eq
  have hz2 := hal2.size
  replace hk := hk.keep hal2.kp
  replace hb1 := hb1.keep hal2.kp
  repeat refine zz ?_
  refine o_alloc rfl rfl ?_
  intro b3 w3 hal3
  have hb3 := hal3.blk
  have hs3 := hal3.b_eq
  have hs1 := hal1.b_eq
  have hz0 := hal1.size
  replace hk := hk.keep hal3.kp
  replace hb1 := hb1.keep hal3.kp
  replace hb2 := hb2.keep hal3.kp
  repeat refine zz ?_
  refine o_store1 (b := b3) (off := 0) rfl rfl rfl rfl rfl hb3 (by simp) ?_
  intro w4 hu4
  have hb4 : Blk w4 b3 _ [.int .i64 x.1, .int .i64 0] := hu4.blk
  replace hk := hk.upd hu4 (by omega)
  replace hb1 := hb1.upd hu4 (by omega)
  replace hb2 := hb2.upd hu4 (by omega)
  repeat refine zz ?_
  refine o_store1 (b := b3) (off := 1) rfl rfl rfl rfl rfl hb4 (by simp) ?_
  intro w5 hu5
  have hb5 : Blk w5 b3 _ [.int .i64 x.1, .int .i64 x.2] := hu5.blk
  replace hk := hk.upd hu5 (by omega)
  replace hb2 := hb2.upd hu5 (by omega)
  repeat refine zz ?_
  refine o_storeS (b := b2) (off := 0) rfl rfl rfl rfl (by repeat (first | exact ones_nil | refine ones_cons (by first | rfl | assumption) ?_)) rfl hb2 (by simp) ?_
  intro w6 hu6
  have hb6 : Blk w6 b2 _ [.int .i64 x.1, .int .i64 x.2] := hu6.blk
  repeat refine zz ?_
  exact retc rfl rfl hb6.cells rfl ⟨rfl, hk.upd hu6 (by omega)⟩

theorem toPairS_ok {w : World} {v : Value} {L : List (Int × Int)} {fp : List Nat} (hx : Sl pairR w v L fp) (hn : L.length ≤ 1048576) :
    Run Try.prog 136 [v] w (fun r w' => Keep w w' ∧ ∃ fp', Sl pairR w' r L fp' ∧ Fresh w.heap.size w' fp') := by
  obtain ⟨A, n, c, rfl, hnx⟩ := hx.split
  refine Run_intro Try.func136 (by unfold CallOk; kernel_rfl) rfl Try.ntmps136 (Nat.le_of_ble_eq_true rfl) ?_
  simp only [penv, Nat.reduceAdd, Nat.zero_add]
  repeat refine zz ?_
  refine o_makeSlice (l := n) (c := n) rfl rfl rfl rfl (Nat.le_refl _) (by omega) (by omega) ?_
  intro b w1 zs hal hzl hz0
  have hk0 := hal.kp
  have hb0 := hal.blk
  have hbe := hal.b_eq
  have hzb := hal.size
  repeat refine zz ?_
  refine W_loop (S := Nat × List Value) (fun s => [(0, .slice A n c), (3, .slice (some ⟨b, 0, none⟩) n n), (4, .int .i64 (s.1 : Int))]) (fun s w' => Keep w w' ∧ s.1 ≤ n ∧ Blk w' b 120 s.2 ∧ s.2.length = n * 2 ∧ Rows pairR w' (L.take s.1) (s.2.take (s.1 * 2)) []) (fun s => n - s.1) (0, zs) ⟨rfl, rfl, rfl, trivial⟩ ⟨hk0, Nat.zero_le _, hb0, hzl, by simp [Rows]⟩ ?_
  rintro ⟨k, cs⟩ w2 ⟨hk2, hk, hb2, hlen, hrows⟩
  dsimp only at hk hlen hrows hb2 ⊢
  have hx2 := hx.keep hk2
  repeat refine zz ?_
  refine W_cond rfl (fun hc => ?_) (fun hc => ?_)
  · have hkn : k < n := by simp at hc; omega
    obtain ⟨hA, hcell⟩ := pair_get hx2 (i := (k : Int)) (by omega) (by omega)
    repeat refine zz ?_
    refine o_call rfl rfl rfl (toPair_ok _) ?_
    rintro _ w3 ⟨rfl, hk3⟩
    replace hk2 := hk2.keep hk3
    replace hb2 := hb2.keep hk3
    replace hrows := hrows.keep hk3
    repeat refine zz ?_
    refine o_storeS (b := b) (off := k * 2) rfl rfl (by rw [ea_blk, Nat.zero_add]) rfl (by repeat (first | exact ones_nil | refine ones_cons (by first | rfl | assumption) ?_)) rfl hb2 (by simp only [List.length_cons, List.length_nil]; omega) ?_
    intro w4 hu4
    have hl1 : (cs.take (k * 2)).length = k * 2 := by rw [List.length_take]; omega
    repeat refine zz ?_
    refine ⟨(k + 1, cs.take (k * 2) ++ [.int .i64 (gi L (k : Int)).1, .int .i64 (gi L (k : Int)).2] ++ cs.drop (k * 2 + 2)), ⟨rfl, rfl, rfl, trivial⟩, ⟨hk2.upd hu4 (by omega), by dsimp only; omega, hu4.blk, ?_, ?_⟩, by dsimp only; omega⟩
    · simp [hl1, hlen]; omega
    · dsimp only
      have e1 : (cs.take (k * 2) ++ [Value.int .i64 (gi L (k : Int)).1, .int .i64 (gi L (k : Int)).2] ++ cs.drop (k * 2 + 2)).take ((k + 1) * 2) = cs.take (k * 2) ++ [Value.int .i64 (gi L (k : Int)).1, .int .i64 (gi L (k : Int)).2] := List.take_left' (by simp [hl1]; omega)
      rw [take_gi (show k < L.length by omega)]
      refine e1.symm ▸ ?_
      exact (hrows.same fun b' hb' => by simp at hb').append (Rows.single (R := pairR) ⟨rfl, rfl⟩)
  · simp at hc
    obtain rfl : k = n := by omega
    repeat refine zz ?_
    rw [List.take_of_length_le (show L.length ≤ k by omega)] at hrows
    refine ret1 rfl rfl ⟨hk2, [b], ?_, Fresh.one hb2 (by omega)⟩
    have := Sl.ofBlk (c := k) hb2 hrows (fun j u hu => by
      rw [List.take_of_length_le (by omega)] at hu; exact hu) (by omega)
    rwa [← hnx] at this

set_option maxHeartbeats 1000000 in
theorem toWish_ok {w : World} {v u : Value} {x : Wsh} {f1 f2 : List Nat} (hl : Sl intR w v x.list f1) (hp : Sl pairR w u x.pairs f2) (hn : totW x ≤ 1048576) :
    Run Try.prog 105 [.agg #[.int .i64 x.kind, .int .i64 x.field, .int .i64 x.value, v, u]] w (fun r w' => Keep w w' ∧ ∃ v' u' g1 g2, r = .agg #[.int .i64 x.kind, .int .i64 x.field, .int .i64 x.value, v', u'] ∧ Sl intR w' v' x.list g1 ∧ Sl pairR w' u' x.pairs g2 ∧ Fresh w.heap.size w' (g1 ++ g2)) := by
  have hln : x.list.length ≤ 1048576 ∧ x.pairs.length ≤ 1048576 := by simp only [totW] at hn; omega
  have dl := hl.dom
  have dp := hp.dom
  refine Run_intro Try.func105 (by unfold CallOk; kernel_rfl) rfl Try.ntmps105 (Nat.le_of_ble_eq_true rfl) ?_
  simp only [penv, Nat.reduceAdd, Nat.zero_add]
  repeat refine zz ?_
  refine o_boxS rfl rfl rfl ?_
  intro b1 w1 hal1
  have hb1 := hal1.blk
  have hk := hal1.kp
  have hs1 := hal1.b_eq
  have hz1 := hal1.size
  replace hl := hl.keep hal1.kp
  replace hp := hp.keep hal1.kp
  repeat refine zz ?_
  refine o_alloc rfl rfl ?_
  intro b2 w2 hal2
  have hb2 := hal2.blk
  have hs2 := hal2.b_eq
  have hz2 := hal2.size
  replace hk := hk.keep hal2.kp
  replace hb1 := hb1.keep hal2.kp
  replace hl := hl.keep hal2.kp
  replace hp := hp.keep hal2.kp
  repeat refine zz ?_
  refine o_alloc rfl rfl ?_
  intro b3 w3 hal3
  have hb3 := hal3.blk
  have hs3 := hal3.b_eq
  have hz3 := hal3.size
  replace hk := hk.keep hal3.kp
  replace hb1 := hb1.keep hal3.kp
  replace hb2 := hb2.keep hal3.kp
  replace hl := hl.keep hal3.kp
  replace hp := hp.keep hal3.kp
  have kA : Keep w2 w3 := hal3.kp
  clear hal1 hal2 hal3
  repeat refine zz ?_
  refine o_store1 (b := b3) (off := 0) rfl rfl rfl rfl rfl hb3 (by simp) ?_
  intro w4 hu4
  replace hb3 : Blk w4 b3 _ [.int .i64 x.kind, .int .i64 0, .int .i64 0, .slice none 0 0, .slice none 0 0] := hu4.blk
  replace hk := hk.upd hu4 (by omega)
  replace hb1 := hb1.upd hu4 (by omega)
  replace hb2 := hb2.upd hu4 (by omega)
  have k4 := kA.upd hu4 (by omega)
  repeat refine zz ?_
  refine o_store1 (b := b3) (off := 1) rfl rfl rfl rfl rfl hb3 (by simp) ?_
  intro w5 hu5
  replace hb3 : Blk w5 b3 _ [.int .i64 x.kind, .int .i64 x.field, .int .i64 0, .slice none 0 0, .slice none 0 0] := hu5.blk
  replace hk := hk.upd hu5 (by omega)
  replace hb1 := hb1.upd hu5 (by omega)
  replace hb2 := hb2.upd hu5 (by omega)
  repeat refine zz ?_
  refine o_store1 (b := b3) (off := 2) rfl rfl rfl rfl rfl hb3 (by simp) ?_
  intro w6 hu6
  replace hb3 : Blk w6 b3 _ [.int .i64 x.kind, .int .i64 x.field, .int .i64 x.value, .slice none 0 0, .slice none 0 0] := hu6.blk
  replace hk := hk.upd hu6 (by omega)
  replace hb1 := hb1.upd hu6 (by omega)
  replace hb2 := hb2.upd hu6 (by omega)
  have hl6 := ((hl.upd hu4 (fun hm => by have := dl _ hm; omega)).upd hu5 (fun hm => by have := dl _ hm; omega)).upd hu6 (fun hm => by have := dl _ hm; omega)
  have hp6 := ((hp.upd hu4 (fun hm => by have := dp _ hm; omega)).upd hu5 (fun hm => by have := dp _ hm; omega)).upd hu6 (fun hm => by have := dp _ hm; omega)
  have z4 := hu4.size
  have z5 := hu5.size
  have z6 := hu6.size
  repeat refine zz ?_
  refine o_call rfl rfl rfl (toIntS_ok hl6 hln.1) ?_
  rintro v7 w7 ⟨hk7, g1, hv7, hf7⟩
  have z7 := hk7.size_le
  replace hk := hk.keep hk7
  replace hb1 := hb1.keep hk7
  replace hb2 := hb2.keep hk7
  replace hb3 := hb3.keep hk7
  replace hp6 := hp6.keep hk7
  have d7 : ∀ b, b ∈ g1 → w6.heap.size ≤ b := fun b hb => hf7.ge hb
  have ov := hv7.oneCell
  repeat refine zz ?_
  refine o_store1 (b := b3) (off := 3) rfl rfl rfl rfl ov hb3 (by simp) ?_
  intro w8 hu8
  replace hb3 : Blk w8 b3 _ [.int .i64 x.kind, .int .i64 x.field, .int .i64 x.value, v7, .slice none 0 0] := hu8.blk
  replace hk := hk.upd hu8 (by omega)
  replace hb1 := hb1.upd hu8 (by omega)
  replace hb2 := hb2.upd hu8 (by omega)
  have hp8 := hp6.upd hu8 (fun hm => by have := dp _ hm; omega)
  have hv8 := hv7.upd hu8 (fun hm => by have := d7 _ hm; omega)
  have hf8 := hf7.upd hu8
  have z8 := hu8.size
  repeat refine zz ?_
  refine o_call rfl rfl rfl (toPairS_ok hp8 hln.2) ?_
  rintro u9 w9 ⟨hk9, g2, hu9, hf9⟩
  have z9 := hk9.size_le
  replace hk := hk.keep hk9
  replace hb1 := hb1.keep hk9
  replace hb2 := hb2.keep hk9
  replace hb3 := hb3.keep hk9
  replace hv8 := hv8.keep hk9
  replace hf8 := hf8.keep hk9
  have d9 : ∀ b, b ∈ g2 → w8.heap.size ≤ b := fun b hb => hf9.ge hb
  have ou := hu9.oneCell
  have u7 := hv7.dom
  repeat refine zz ?_
  refine o_store1 (b := b3) (off := 4) rfl rfl rfl rfl ou hb3 (by simp) ?_
  intro w10 hu10
  replace hb3 : Blk w10 b3 _ [.int .i64 x.kind, .int .i64 x.field, .int .i64 x.value, v7, u9] := hu10.blk
  replace hk := hk.upd hu10 (by omega)
  replace hb2 := hb2.upd hu10 (by omega)
  have hv10 := hv8.upd hu10 (fun hm => by have := d7 _ hm; omega)
  have hu10' := hu9.upd hu10 (fun hm => by have := d9 _ hm; omega)
  have hf10 := (hf8.upd hu10).mono (show w.heap.size ≤ w6.heap.size by omega)
  have hf10' := (hf9.upd hu10).mono (show w.heap.size ≤ w8.heap.size by omega)
  repeat refine zz ?_
  refine o_storeS (b := b2) (off := 0) rfl rfl rfl rfl (by repeat (first | exact ones_nil | refine ones_cons (by first | rfl | assumption) ?_)) rfl hb2 (by simp) ?_
  intro w11 hu11
  have hb11 : Blk w11 b2 _ [.int .i64 x.kind, .int .i64 x.field, .int .i64 x.value, v7, u9] := hu11.blk
  replace hk := hk.upd hu11 (by omega)
  have hv11 := hv10.upd hu11 (fun hm => by have := d7 _ hm; omega)
  have hu11' := hu10'.upd hu11 (fun hm => by have := d9 _ hm; omega)
  repeat refine zz ?_
  exact retc rfl rfl hb11.cells rfl ⟨hk, v7, u9, g1, g2, rfl, hv11, hu11', (hf10.upd hu11).append (hf10'.upd hu11) fun b h1 h2 => by have := u7 b h1; have := d9 b h2; omega⟩

set_option maxHeartbeats 1000000 in
theorem toNode_ok {w : World} {v u : Value} {x : Nod} {f1 f2 : List Nat} (hl : Sl intR w v x.wish.list f1) (hp : Sl pairR w u x.wish.pairs f2) (hn : totW x.wish ≤ 1048576) :
    Run Try.prog 49 [.agg #[.int .i64 x.op, .int .i64 x.wish.kind, .int .i64 x.wish.field, .int .i64 x.wish.value, v, u]] w (fun r w' => Keep w w' ∧ ∃ v' u' g1 g2, r = .agg #[.int .i64 x.op, .int .i64 x.wish.kind, .int .i64 x.wish.field, .int .i64 x.wish.value, v', u'] ∧ Sl intR w' v' x.wish.list g1 ∧ Sl pairR w' u' x.wish.pairs g2 ∧ Fresh w.heap.size w' (g1 ++ g2)) := by
  have dl := hl.dom
  have dp := hp.dom
  refine Run_intro Try.func49 (by unfold CallOk; kernel_rfl) rfl Try.ntmps49 (Nat.le_of_ble_eq_true rfl) ?_
  simp only [penv, Nat.reduceAdd, Nat.zero_add]
  repeat refine zz ?_
  refine o_boxS rfl rfl rfl ?_
  intro b1 w1 hal1
  have hb1 := hal1.blk
  have hk := hal1.kp
  have hs1 := hal1.b_eq
  have hz1 := hal1.size
  replace hl := hl.keep hal1.kp
  replace hp := hp.keep hal1.kp
  repeat refine zz ?_
  refine o_alloc rfl rfl ?_
  intro b2 w2 hal2
  have hb2 := hal2.blk
  have hs2 := hal2.b_eq
  have hz2 := hal2.size
  replace hk := hk.keep hal2.kp
  replace hb1 := hb1.keep hal2.kp
  replace hl := hl.keep hal2.kp
  replace hp := hp.keep hal2.kp
  repeat refine zz ?_
  refine o_alloc rfl rfl ?_
  intro b3 w3 hal3
  have hb3 := hal3.blk
  have hs3 := hal3.b_eq
  have hz3 := hal3.size
  replace hk := hk.keep hal3.kp
  replace hb1 := hb1.keep hal3.kp
  replace hb2 := hb2.keep hal3.kp
  replace hl := hl.keep hal3.kp
  replace hp := hp.keep hal3.kp
  clear hal1 hal2 hal3
  repeat refine zz ?_
  refine o_store1 (b := b3) (off := 0) rfl rfl rfl rfl rfl hb3 (by simp) ?_
  intro w4 hu4
  replace hb3 : Blk w4 b3 _ [.int .i64 x.op, .int .i64 0, .int .i64 0, .int .i64 0, .slice none 0 0, .slice none 0 0] := hu4.blk
  replace hk := hk.upd hu4 (by omega)
  replace hb1 := hb1.upd hu4 (by omega)
  replace hb2 := hb2.upd hu4 (by omega)
  have hl4 := hl.upd hu4 (fun hm => by have := dl _ hm; omega)
  have hp4 := hp.upd hu4 (fun hm => by have := dp _ hm; omega)
  have z4 := hu4.size
  repeat refine zz ?_
  refine o_call rfl rfl rfl (toWish_ok hl4 hp4 hn) ?_
  rintro _ w5 ⟨hk5, v5, u5, g1, g2, rfl, hv5, hu5, hf5⟩
  have z5 := hk5.size_le
  replace hk := hk.keep hk5
  replace hb1 := hb1.keep hk5
  replace hb2 := hb2.keep hk5
  replace hb3 := hb3.keep hk5
  have d5 : ∀ b, b ∈ g1 ++ g2 → w4.heap.size ≤ b := fun b hb => hf5.ge hb
  have ov := hv5.oneCell
  have ou := hu5.oneCell
  repeat refine zz ?_
  refine o_storeS (b := b3) (off := 1) rfl rfl rfl rfl (by repeat (first | exact ones_nil | refine ones_cons (by first | rfl | assumption) ?_)) rfl hb3 (by simp) ?_
  intro w6 hu6
  replace hb3 : Blk w6 b3 _ [.int .i64 x.op, .int .i64 x.wish.kind, .int .i64 x.wish.field, .int .i64 x.wish.value, v5, u5] := hu6.blk
  replace hk := hk.upd hu6 (by omega)
  replace hb2 := hb2.upd hu6 (by omega)
  have hv6 := hv5.upd hu6 (fun hm => by have := d5 _ (List.mem_append.2 (.inl hm)); omega)
  have hu6' := hu5.upd hu6 (fun hm => by have := d5 _ (List.mem_append.2 (.inr hm)); omega)
  have hf6 := hf5.upd hu6
  repeat refine zz ?_
  refine o_storeS (b := b2) (off := 0) rfl rfl rfl rfl (by repeat (first | exact ones_nil | refine ones_cons (by first | rfl | assumption) ?_)) rfl hb2 (by simp) ?_
  intro w7 hu7
  have hb7 : Blk w7 b2 _ [.int .i64 x.op, .int .i64 x.wish.kind, .int .i64 x.wish.field, .int .i64 x.wish.value, v5, u5] := hu7.blk
  replace hk := hk.upd hu7 (by omega)
  have hv7 := hv6.upd hu7 (fun hm => by have := d5 _ (List.mem_append.2 (.inl hm)); omega)
  have hu7' := hu6'.upd hu7 (fun hm => by have := d5 _ (List.mem_append.2 (.inr hm)); omega)
  repeat refine zz ?_
  exact retc rfl rfl hb7.cells rfl ⟨hk, v5, u5, g1, g2, rfl, hv7, hu7', (hf6.upd hu7).mono (by omega)⟩
end Go.E

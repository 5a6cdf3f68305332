/-
  Contracts of the laws' helpers on items: copies, sizes, comparisons, marks. Conditions: as stated.
-/
import Derived.Test.YtomkdoppjimhoaaLb
import Derived.Test.YtomkdoppjimhoaaBs
set_option linter.unusedVariables false
set_option linter.unusedSimpArgs false
namespace Go.E
open Go Go.RowKit Go.Proofs
attribute [local irreducible] W WL WD WE thenE inE retQ PureOp Keep Cell Cells Blk Sl Rows Own Src Fresh

theorem szIntS_ok {w : World} {v : Value} {xs : List Int} {fp : List Nat} {k : Int} (hx : Sl intR w v xs fp) (h0 : 0 ≤ k) (h1 : k ≤ 1048576) : Run Try.prog 127 [v, .int .i64 k] w (fun r w' => r = .int .i64 (szN k xs.length) ∧ w = w') := by
  have hn := hx.le
  obtain ⟨A, n, c, rfl, hnx⟩ := hx.split
  refine Run_intro Try.func127 (by unfold CallOk; kernel_rfl) rfl Try.ntmps127 (Nat.le_of_ble_eq_true rfl) ?_
  simp only [penv, Nat.reduceAdd, Nat.zero_add]
  repeat refine zz ?_
  refine W_cond rfl (fun hc => ?_) (fun hc => ?_)
  · simp at hc
    repeat refine zz ?_
    exact ret1 rfl rfl ⟨by rw [szN, if_pos (by omega)], rfl⟩
  · simp at hc
    repeat refine zz ?_
    exact ret1 rfl rfl ⟨by rw [szN, if_neg (by omega), hnx], rfl⟩

theorem szItem_ok {w : World} {u : Value} {x : Itm} {fp : List Nat} {k : Int} (hx : Sl intR w u x.vals fp) (h0 : 0 ≤ k) (h1 : k ≤ 1048576) : Run Try.prog 75 [.agg #[.int .i64 x.id, u], .int .i64 k] w (fun r w' => r = .int .i64 (szN k x.vals.length) ∧ Keep w w') := by
  refine Run_intro Try.func75 (by unfold CallOk; kernel_rfl) rfl Try.ntmps75 (Nat.le_of_ble_eq_true rfl) ?_
  simp only [penv, Nat.reduceAdd, Nat.zero_add]
  repeat refine zz ?_
  refine o_boxS rfl rfl rfl ?_
  intro b w1 hal
  have hb := hal.blk
  have hk := hal.kp
  replace hx := hx.keep hk
  repeat refine zz ?_
  refine o_call rfl rfl rfl (szIntS_ok hx h0 h1) ?_
  rintro _ _ ⟨rfl, rfl⟩
  repeat refine zz ?_
  refine W_cond rfl (fun hc => ?_) (fun hc => ?_)
  · simp at hc
    repeat refine zz ?_
    refine ret1 rfl rfl ⟨?_, hk⟩
    unfold szN at hc ⊢
    split
    · rfl
    · rename_i h; rw [if_neg h] at hc; omega
  · repeat refine zz ?_
    exact ret1 rfl rfl ⟨rfl, hk⟩

theorem toItem_ok {w : World} {u : Value} {x : Itm} {fp : List Nat} (hx : Sl intR w u x.vals fp) (hn : x.vals.length ≤ 1048576) :
    Run Try.prog 82 [.agg #[.int .i64 x.id, u]] w (fun r w' => Keep w w' ∧ ∃ u' fp', r = .agg #[.int .i64 x.id, u'] ∧ Sl intR w' u' x.vals fp' ∧ Fresh w.heap.size w' fp') := by
  have hdx := hx.dom
  refine Run_intro Try.func82 (by unfold CallOk; kernel_rfl) rfl Try.ntmps82 (Nat.le_of_ble_eq_true rfl) ?_
  simp only [penv, Nat.reduceAdd, Nat.zero_add]
  repeat refine zz ?_
  refine o_boxS rfl rfl rfl ?_
  intro b1 w1 hal1
  have hb1 := hal1.blk
  have hk := hal1.kp
  have hs1 := hal1.b_eq
  have hz1 := hal1.size
  replace hx := hx.keep hal1.kp
  repeat refine zz ?_
  refine o_alloc rfl rfl ?_
  intro b2 w2 hal2
  have hb2 := hal2.blk
  have hs2 := hal2.b_eq
  have hz2 := hal2.size
  replace hx := hx.keep hal2.kp
  replace hk := hk.keep hal2.kp
  replace hb1 := hb1.keep hal2.kp
  repeat refine zz ?_
  refine o_alloc rfl rfl ?_
  intro b3 w3 hal3
  have hb3 := hal3.blk
  have hs3 := hal3.b_eq
  have hz3 := hal3.size
  replace hx := hx.keep hal3.kp
  replace hk := hk.keep hal3.kp
  replace hb1 := hb1.keep hal3.kp
  replace hb2 := hb2.keep hal3.kp
  repeat refine zz ?_
  refine o_store1 (b := b3) (off := 0) rfl rfl rfl rfl rfl hb3 (by simp) ?_
  intro w4 hu4
  have hb3' : Blk w4 b3 _ [.int .i64 x.id, .slice none 0 0] := hu4.blk
  replace hk := hk.upd hu4 (by omega)
  replace hx := hx.upd hu4 (fun hm => by have := hdx _ hm; omega)
  replace hb1 := hb1.upd hu4 (by omega)
  replace hb2 := hb2.upd hu4 (by omega)
  have hz4 := hu4.size
  repeat refine zz ?_
  refine o_call rfl rfl rfl (toIntS_ok hx hn) ?_
  rintro u5 w5 ⟨hk5, f5, hx5, hf5⟩
  replace hk := hk.keep hk5
  replace hb1 := hb1.keep hk5
  replace hb2 := hb2.keep hk5
  replace hb3' := hb3'.keep hk5
  have hz5 := hk5.size_le
  have hdx5 : ∀ b, b ∈ f5 → w4.heap.size ≤ b := fun b hb => hf5.ge hb
  repeat refine zz ?_
  refine o_store1 (b := b3) (off := 1) rfl rfl rfl rfl hx5.oneCell hb3' (by simp) ?_
  intro w6 hu6
  have hb3'' : Blk w6 b3 _ [.int .i64 x.id, u5] := hu6.blk
  replace hk := hk.upd hu6 (by omega)
  replace hx5 := hx5.upd hu6 (fun hm => by have := hdx5 _ hm; omega)
  replace hf5 := hf5.upd hu6
  replace hb2 := hb2.upd hu6 (by omega)
  have hz6 := hu6.size
  repeat refine zz ?_
  refine o_storeS (b := b2) (off := 0) rfl rfl rfl rfl (fun v hv => ?_) rfl hb2 (by simp) ?_
  · simp only [List.mem_cons, List.not_mem_nil, or_false] at hv
    rcases hv with rfl | rfl
    · rfl
    · exact hx5.oneCell
  intro w7 hu7
  have hb2' : Blk w7 b2 _ [.int .i64 x.id, u5] := hu7.blk
  replace hk := hk.upd hu7 (by omega)
  replace hx5 := hx5.upd hu7 (fun hm => by have := hdx5 _ hm; omega)
  replace hf5 := hf5.upd hu7
  repeat refine zz ?_
  exact retc rfl rfl hb2'.cells rfl ⟨hk, u5, f5, rfl, hx5, hf5.mono (by omega)⟩

theorem eqItem_ok {w : World} {u v : Value} {x y : Itm} {fp gp : List Nat} (hx : Sl intR w u x.vals fp) (hy : Sl intR w v y.vals gp) :
    Run Try.prog 88 [.agg #[.int .i64 x.id, u], .agg #[.int .i64 y.id, v]] w (fun r w' => r = .bool (decide (x = y)) ∧ Keep w w') := by
  refine Run_intro Try.func88 (by unfold CallOk; kernel_rfl) rfl Try.ntmps88 (Nat.le_of_ble_eq_true rfl) ?_
  simp only [penv, Nat.reduceAdd, Nat.zero_add]
  repeat refine zz ?_
  refine o_boxS rfl rfl rfl ?_
  intro b1 w1 hal1
  have hb1 := hal1.blk
  have hk := hal1.kp
  replace hx := hx.keep hal1.kp
  replace hy := hy.keep hal1.kp
  repeat refine zz ?_
  refine o_boxS rfl rfl rfl ?_
  intro b2 w2 hal2
  have hb2 := hal2.blk
  replace hx := hx.keep hal2.kp
  replace hy := hy.keep hal2.kp
  replace hb1 := hb1.keep hal2.kp
  replace hk := hk.keep hal2.kp
  repeat refine zz ?_
  refine W_cond rfl (fun hc => ?_) (fun hc => ?_)
  · simp at hc
    repeat refine zz ?_
    refine ret1 rfl rfl ⟨?_, hk⟩
    have : x ≠ y := fun e => hc (by rw [e])
    simp [this]
  · simp at hc
    repeat refine zz ?_
    refine o_call rfl rfl rfl (eqIntS_ok hx hy) ?_
    rintro _ w3 ⟨rfl, hk3⟩
    replace hk := hk.keep hk3
    repeat refine zz ?_
    refine W_cond rfl (fun hd => ?_) (fun hd => ?_)
    · simp at hd
      repeat refine zz ?_
      refine ret1 rfl rfl ⟨?_, hk⟩
      have : x ≠ y := fun e => hd (by rw [e])
      simp [this]
    · simp at hd
      repeat refine zz ?_
      refine ret1 rfl rfl ⟨?_, hk⟩
      have : x = y := by cases x; cases y; simp_all
      simp [this]

theorem szItemS_ok {w : World} {v : Value} {L : List Itm} {fp : List Nat} {k : Int} (hx : Sl itemR w v L fp) (h0 : 0 ≤ k) (h1 : k ≤ 1048576) : Run Try.prog 35 [v, .int .i64 k] w (fun r w' => r = .int .i64 (szN k (L.length + totI L)) ∧ Keep w w') := by
  have hn := hx.le
  obtain ⟨A, n, c, rfl, hnx⟩ := hx.split
  refine Run_intro Try.func35 (by unfold CallOk; kernel_rfl) rfl Try.ntmps35 (Nat.le_of_ble_eq_true rfl) ?_
  simp only [penv, Nat.reduceAdd, Nat.zero_add]
  repeat refine zz ?_
  refine W_cond rfl (fun hc => ?_) (fun hc => ?_)
  · simp at hc
    repeat refine zz ?_
    exact ret1 rfl rfl ⟨by rw [szN, if_pos (by omega)], Keep.refl _⟩
  · simp at hc
    repeat refine zz ?_
    refine W_loop (S := Nat) (fun i => [(0, .slice A n c), (1, .int .i64 (k - n - (totI (L.take i) : Int))), (5, .int .i64 (i : Int))]) (fun i w' => Keep w w' ∧ i ≤ n ∧ 0 ≤ k - n - (totI (L.take i) : Int)) (fun i => n - i) 0 ⟨rfl, find_int rfl (by simp [totI]), rfl, trivial⟩ ⟨Keep.refl _, Nat.zero_le _, by simp [totI]; omega⟩ ?_
    rintro i w1 ⟨hk1, hi, hpos⟩
    replace hx := hx.keep hk1
    repeat refine zz ?_
    refine W_cond rfl (fun hc2 => ?_) (fun hc2 => ?_)
    · have hin : i < n := by simp at hc2; omega
      obtain ⟨hA, u, f, hcell, hu, _⟩ := item_get hx (i := (i : Int)) (by omega) (by omega)
      have htk := totI_take (L := L) (k := i) (by omega)
      have htl := totI_take_le L (i + 1)
      repeat refine zz ?_
      refine o_call rfl rfl rfl (szItem_ok hu hpos (by omega)) ?_
      rintro _ w2 ⟨rfl, hk2⟩
      replace hk1 := hk1.keep hk2
      repeat refine zz ?_
      refine W_cond rfl (fun hc3 => ?_) (fun hc3 => ?_)
      · simp at hc3
        repeat refine zz ?_
        refine ret1 rfl rfl ⟨?_, hk1⟩
        unfold szN at hc3
        rw [szN, if_pos (by split at hc3 <;> omega)]
      · simp at hc3
        have hz : szN (k - n - (totI (L.take i) : Int)) (gi L (i : Int)).vals.length = k - n - (totI (L.take (i + 1)) : Int) := by
          unfold szN at hc3 ⊢
          split
          · rename_i h; rw [if_pos h] at hc3; omega
          · rw [htk]; omega
        rw [hz] at hc3
        repeat refine zz ?_
        exact ⟨i + 1, ⟨rfl, find_int rfl hz, rfl, trivial⟩, ⟨hk1, by omega, hc3⟩, by omega⟩
    · simp at hc2
      obtain rfl : i = n := by omega
      rw [List.take_of_length_le (by omega)] at hpos ⊢
      repeat refine zz ?_
      refine ret1 rfl rfl ⟨?_, hk1⟩
      rw [szN, if_neg (by omega)]
      congr 1; omega

theorem toItemS_ok {w : World} {v : Value} {L : List Itm} {fp : List Nat} (hx : Sl itemR w v L fp) (hn : L.length + totI L ≤ 1048576) :
    Run Try.prog 37 [v] w (fun r w' => Keep w w' ∧ ∃ fp', Sl itemR w' r L fp' ∧ Fresh w.heap.size w' fp') := by
  obtain ⟨A, n, c, rfl, hnx⟩ := hx.split
  refine Run_intro Try.func37 (by unfold CallOk; kernel_rfl) rfl Try.ntmps37 (Nat.le_of_ble_eq_true rfl) ?_
  simp only [penv, Nat.reduceAdd, Nat.zero_add]
  repeat refine zz ?_
  refine o_makeSlice (l := n) (c := n) rfl rfl rfl rfl (Nat.le_refl _) (by omega) (by omega) ?_
  intro b w1 zs hal hzl hz0
  have hk0 := hal.kp
  have hb0 := hal.blk
  have hbe := hal.b_eq
  have hzb := hal.size
  repeat refine zz ?_
  refine W_loop (S := Nat × List Value × List Nat) (fun s => [(0, .slice A n c), (3, .slice (some ⟨b, 0, none⟩) n n), (4, .int .i64 (s.1 : Int))]) (fun s w' => Keep w w' ∧ s.1 ≤ n ∧ Blk w' b 90 s.2.1 ∧ s.2.1.length = n * 2 ∧ Rows itemR w' (L.take s.1) (s.2.1.take (s.1 * 2)) s.2.2 ∧ Fresh w1.heap.size w' s.2.2) (fun s => n - s.1) (0, zs, []) ⟨rfl, rfl, rfl, trivial⟩ ⟨hk0, Nat.zero_le _, hb0, hzl, by simp [Rows], Fresh.nil _ _⟩ ?_
  rintro ⟨k, cs, fi⟩ w2 ⟨hk2, hk, hb2, hlen, hrows, hfr⟩
  dsimp only at hk hlen hrows hb2 hfr ⊢
  have hx2 := hx.keep hk2
  repeat refine zz ?_
  refine W_cond rfl (fun hc => ?_) (fun hc => ?_)
  · have hkn : k < n := by simp at hc; omega
    obtain ⟨hA, u, f, hcell, hu, _⟩ := item_get hx2 (i := (k : Int)) (by omega) (by omega)
    have hle := totI_each (L := L) (k := k) (by omega)
    repeat refine zz ?_
    refine o_call rfl rfl rfl (toItem_ok hu (by omega)) ?_
    rintro _ w3 ⟨hk3, u3, f3, rfl, hu3, hf3⟩
    have hz2 := hb2.lt
    have hdf := hrows.dom
    replace hk2 := hk2.keep hk3
    replace hb2 := hb2.keep hk3
    replace hfr := hfr.keep hk3
    replace hrows := hrows.keep hk3
    repeat refine zz ?_
    refine o_storeS (b := b) (off := k * 2) rfl rfl (by rw [ea_blk, Nat.zero_add]) rfl (fun v hv => ?_) rfl hb2 (by simp only [List.length_cons, List.length_nil]; omega) ?_
    · simp only [List.mem_cons, List.not_mem_nil, or_false] at hv
      rcases hv with rfl | rfl
      · rfl
      · exact hu3.oneCell
    intro w4 hu4
    have hbf3 : b ∉ f3 := fun hm => by have := hf3.ge hm; omega
    have hbfi : b ∉ fi := fun hm => by have := hfr.ge hm; omega
    have hl1 : (cs.take (k * 2)).length = k * 2 := by rw [List.length_take]; omega
    have hu4' := hu3.upd hu4 hbf3
    repeat refine zz ?_
    refine ⟨(k + 1, cs.take (k * 2) ++ [.int .i64 (gi L (k : Int)).id, u3] ++ cs.drop (k * 2 + 2), fi ++ f3), ⟨rfl, rfl, rfl, trivial⟩, ⟨hk2.upd hu4 (by omega), by dsimp only; omega, hu4.blk, ?_, ?_, (hfr.upd hu4).append ((hf3.mono (by have := hk2.size_le; have := hb2.lt; omega)).upd hu4) fun b' h1 h2 => by have := hf3.ge h2; have := hdf b' h1; omega⟩, by dsimp only; omega⟩
    · simp [hl1, hlen]; omega
    · dsimp only
      have e1 : (cs.take (k * 2) ++ [Value.int .i64 (gi L (k : Int)).id, u3] ++ cs.drop (k * 2 + 2)).take ((k + 1) * 2) = cs.take (k * 2) ++ [Value.int .i64 (gi L (k : Int)).id, u3] := List.take_left' (by simp [hl1]; omega)
      rw [take_gi (show k < L.length by omega)]
      refine e1.symm ▸ ?_
      refine (hrows.same fun b' hb' => hu4.other b' fun e => hbfi (e ▸ hb')).append (Rows.single ⟨u3, rfl, hu4'⟩)
  · simp at hc
    obtain rfl : k = n := by omega
    repeat refine zz ?_
    rw [List.take_of_length_le (show L.length ≤ k by omega)] at hrows
    refine ret1 rfl rfl ⟨hk2, b :: fi, ?_, (Fresh.one hb2 (by omega)).append (hfr.mono (by omega)) fun b' h1 h2 => ?_⟩
    · have := Sl.ofBlk (c := k) hb2 hrows (fun j u hu => by
        rw [List.take_of_length_le (by omega)] at hu; exact hu) (by omega)
      rwa [← hnx] at this
    · have : b' = b := by simpa using h1
      subst this
      have := hfr.ge h2; omega

theorem eqItemS_ok {w : World} {v u : Value} {xs ys : List Itm} {fp gp : List Nat} (hx : Sl itemR w v xs fp) (hy : Sl itemR w u ys gp) :
    Run Try.prog 41 [v, u] w (fun r w' => r = .bool (decide (xs = ys)) ∧ Keep w w') := by
  have hn := hx.le
  obtain ⟨A, n, c, rfl, hnx⟩ := hx.split
  obtain ⟨A2, m, c2, rfl, hmy⟩ := hy.split
  refine Run_intro Try.func41 (by unfold CallOk; kernel_rfl) rfl Try.ntmps41 (Nat.le_of_ble_eq_true rfl) ?_
  simp only [penv, Nat.reduceAdd, Nat.zero_add]
  repeat refine zz ?_
  refine W_cond rfl (fun hc => ?_) (fun hc => ?_)
  · repeat refine zz ?_
    simp at hc
    refine ret1 rfl rfl ⟨?_, Keep.refl _⟩
    have : xs ≠ ys := fun e => by subst e; omega
    simp [this]
  · simp at hc
    have hnm : n = m := by omega
    subst hnm
    repeat refine zz ?_
    refine W_loop (S := Nat) (fun k => [(0, .slice A n c), (1, .slice A2 n c2), (5, .int .i64 (k : Int))]) (fun k w' => Keep w w' ∧ k ≤ n ∧ ∀ i, i < k → gi xs (i : Int) = gi ys (i : Int)) (fun k => n - k) 0 ⟨rfl, rfl, rfl, trivial⟩ ⟨Keep.refl _, Nat.zero_le _, fun i hi => absurd hi (by omega)⟩ ?_
    rintro k w1 ⟨hk1, hk, hall⟩
    replace hx := hx.keep hk1
    replace hy := hy.keep hk1
    repeat refine zz ?_
    refine W_cond rfl (fun hc => ?_) (fun hc => ?_)
    · have hkn : k < n := by simp at hc; omega
      obtain ⟨hA, a, f1, hck, ha, _⟩ := item_get hx (i := (k : Int)) (by omega) (by omega)
      obtain ⟨hA2, b, f2, hck2, hb, _⟩ := item_get hy (i := (k : Int)) (by omega) (by omega)
      repeat refine zz ?_
      refine W_quiet (Keep w1) (by kernel_rfl) (by kernel_rfl) (Keep.drew _) ?_
      repeat refine qq ?_
      refine WQ_call rfl rfl rfl (fun w' hw' => (eqItem_ok (ha.keep hw') (hb.keep hw')).kk hw') ?_
      repeat refine qq ?_
      intro w2 hk2 
      repeat refine zz ?_
      refine W_cond rfl (fun hd => ?_) (fun hd => ?_)
      · repeat refine zz ?_
        simp at hd
        refine ret1 rfl rfl ⟨?_, hk1.keep hk2⟩
        have : xs ≠ ys := fun e => by subst e; exact hd rfl
        simp [this]
      · simp at hd
        repeat refine zz ?_
        exact ⟨k + 1, ⟨rfl, rfl, rfl, trivial⟩, ⟨hk1.keep hk2, by omega, fun i hi => by
          rcases Nat.lt_or_ge i k with h1 | h1
          · exact hall i h1
          · have : i = k := by omega
            subst this; exact hd⟩, by omega⟩
    · simp at hc
      obtain rfl : k = n := by omega
      repeat refine zz ?_
      refine ret1 rfl rfl ⟨?_, hk1⟩
      have : xs = ys := gi_ext (by omega) (fun i hi => hall i (by omega))
      simp [this]

theorem markItemS_ok {w : World} {v : Value} {L : List Itm} {fp : List Nat} {B : Nat} {k : Int} (hx : Sl itemR w v L fp) (hf : Fresh B w fp) (hk0 : 0 ≤ k) (hk1 : k + (L.length + totI L : Nat) ≤ 4611686018427387904) :
    Run Try.prog 42 [v, .int .i64 k] w (fun r w' => r = .int .i64 (k + (L.length + totI L : Nat)) ∧ Sl itemR w' v (markI k L) fp ∧ Fresh B w' fp ∧ Wrs w w' fp) := by
  have hn := hx.le
  obtain ⟨A, n, c, rfl, hnx⟩ := hx.split
  refine Run_intro Try.func42 (by unfold CallOk; kernel_rfl) rfl Try.ntmps42 (Nat.le_of_ble_eq_true rfl) ?_
  simp only [penv, Nat.reduceAdd, Nat.zero_add]
  repeat refine zz ?_
  refine W_loop (S := Nat) (fun s => [(0, .slice A n c), (1, .int .i64 (k + (s + totI (L.take s) : Nat))), (5, .int .i64 (s : Int))]) (fun s w' => s ≤ n ∧ Sl itemR w' (.slice A n c) (markI k (L.take s) ++ L.drop s) fp ∧ Fresh B w' fp ∧ Wrs w w' fp) (fun s => n - s) 0 ⟨rfl, find_int rfl (by simp [totI]), rfl, trivial⟩ ⟨Nat.zero_le _, by simpa [markI] using hx, hf, Wrs.refl _⟩ ?_
  rintro i w1 ⟨hi, hys, hf1, hw1⟩
  repeat refine zz ?_
  refine W_cond rfl (fun hc => ?_) (fun hc => ?_)
  · have hin : i < n := by simp at hc; omega
    have htake := take_gi (xs := L) (k := i) (by omega)
    have htot := totI_take (L := L) (k := i) (by omega)
    have htl := totI_take_le L (i + 1)
    have hl : (markI k (L.take i)).length = i := by rw [markI_len, List.length_take]; omega
    have hel : gi (markI k (L.take i) ++ L.drop i) (i : Int) = gi L (i : Int) := by
      rw [gi_lt (by rw [List.length_append, hl, List.length_drop]; omega), gi_lt (show i < L.length by omega), List.getElem_append_right (by omega)]
      simp [hl]
    obtain ⟨hA, u, f, hcell, hu, _⟩ := item_get hys (i := (i : Int)) (by omega) (by omega)
    have hblk := hys.blocks (by decide) (by omega)
    have hmem : ∀ ad, fa (ea A 2 (i : Int)) 0 = some ad → ad.block ∈ fp := fun ad had => by
      obtain ⟨a1, h1, h2⟩ := fa_block had
      obtain ⟨a2, h3, h4⟩ := ea_block h1
      rw [h2, h4]; exact hblk a2 h3
    repeat refine zz ?_
    refine o_storeC rfl rfl (hcell.at_ rfl) rfl rfl hf1 hmem ?_
    intro w2 hp
    have hys2 := hys.put hf1.nd (by decide) hin (j := 0) (x' := ⟨k + (i + totI (L.take i) : Nat), (gi L (i : Int)).vals⟩) (by decide) (fun hk' ck fk hr => by
      obtain ⟨v', rfl, hv'⟩ := hr
      refine ⟨v', rfl, ?_⟩
      rw [← gi_lt hk', hel] at hv'; exact hv') rfl hp
    have hf2 := hf1.put hp
    have hw2 := hw1.trans (hp.wrs_of hmem)
    obtain ⟨hk', ck, fk, hnk, hsub, ⟨v', rfl, hv'⟩, hcells, hA', back⟩ := hys2.focusI hf2.nd (by decide) hin
    simp only [List.getElem_set_self] at hv' hcells
    repeat refine zz ?_
    refine o_call rfl rfl rfl (markIntS_ok hv' (hf2.sub hnk hsub) (by omega) (by omega)) ?_
    rintro _ w3 ⟨rfl, hs3, hf3, hw3⟩
    have hb := back w3 ⟨k + (i + totI (L.take i) : Nat), iota (k + (i + totI (L.take i) : Nat) + 1) (gi L (i : Int)).vals.length⟩ hw3 ⟨v', by simp, hs3⟩
    repeat refine zz ?_
    refine ⟨i + 1, ⟨rfl, find_int rfl (by rw [htot]; omega), rfl, trivial⟩, ⟨by omega, ?_, hf2.join hw3 hf3, hw2.trans (hw3.sub hsub)⟩, by omega⟩
    rw [List.set_set] at hb
    have e1 : (markI k (L.take i) ++ L.drop i).set i ⟨k + (i + totI (L.take i) : Nat), iota (k + (i + totI (L.take i) : Nat) + 1) (gi L (i : Int)).vals.length⟩ = markI k (L.take (i + 1)) ++ L.drop (i + 1) := by
      rw [htake, markI_append, List.set_append_right _ _ (by omega), hl, Nat.sub_self, drop_gi (show i < L.length by omega), List.set_cons_zero]
      have : (L.take i).length = i := by rw [List.length_take]; omega
      simp [markI, this]
    rw [← e1]; exact hb
  · simp at hc
    obtain rfl : i = n := by omega
    have hti : L.take i = L := List.take_of_length_le (by omega)
    have hdi : L.drop i = [] := List.drop_of_length_le (by omega)
    rw [hti, hdi, List.append_nil] at hys
    rw [hti]
    repeat refine zz ?_
    exact ret1 rfl rfl ⟨by rw [hnx], hys, hf1, hw1⟩
end Go.E

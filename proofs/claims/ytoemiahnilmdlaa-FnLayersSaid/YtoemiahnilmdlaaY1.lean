/-
  Contracts: skybands and vetoes: picks of items. Conditions: as stated.
-/
import Derived.Test.YtoemiahnilmdlaaY0
set_option linter.unusedVariables false
set_option linter.unusedSimpArgs false
namespace Go.E
open Go Go.RowKit Go.Proofs
attribute [local irreducible] W WL WD WE thenE inE retQ PureOp Keep Cell Cells Blk Sl Rows Own Src Fresh
attribute [local irreducible] cmpE isExpr areItems pickN scoreN rankL relL bestItems beatsAll bordN apprN poll fine

set_option maxHeartbeats 1000000 in
theorem spec_SkybandOf_ok {w : World} {v u : Value} {L : List Itm} {e : List Nod} {fp gp : List Nat} (hL : Sl itemR w v L fp) (he : Sl nodeR w u e gp) (q : Int) (hn : e.length + totN e ≤ 1048576) :
    Run Try.prog 81 [v, u, .int .i64 q] w (fun r w' => Keep w w' ∧ ∃ fp, Sl intR w' r (pickIf (fine L e) L (skyAt L e q)) fp ∧ Fresh w.heap.size w' fp) := by
  obtain ⟨A, n, c, rfl, hnx⟩ := hL.split
  refine Run_intro Try.func81 (by unfold CallOk; kernel_rfl) rfl Try.ntmps81 (Nat.le_of_ble_eq_true rfl) ?_
  simp only [penv, Nat.reduceAdd, Nat.zero_add]
  repeat refine zz ?_
  refine o_buildSlice rfl rfl rfl rfl rfl (by intro p hp; cases hp) (by omega) ?_
  intro b0 w1 hal
  have ho : OwnF intR w1 w.heap.size 3 (.slice (some ⟨b0, 0, none⟩) 0 0) [] [] := OwnF.made hal.blk (by have := hal.b_eq; omega)
  have hk := hal.kp
  repeat refine zz ?_
  refine W_loop (S := Nat × Value) (fun s => [(0, .slice A n c), (1, u), (2, .int .i64 q), (7, s.2), (8, .int .i64 (s.1 : Int))]) (fun s w' => Keep w w' ∧ s.1 ≤ n ∧ (0 < s.1 → fine L e = true) ∧ OwnF intR w' w.heap.size 3 s.2 (pickN L (skyAt L e q) s.1) []) (fun s => n - s.1) (0, _) ⟨rfl, rfl, rfl, rfl, rfl, trivial⟩ ⟨hk, Nat.zero_le _, fun h => absurd h (by simp), by unfold pickN; exact ho⟩ ?_
  clear ho hal hk
  rintro ⟨k, va⟩ wa ⟨hka, hkn, hpos, hoa⟩
  dsimp only at hkn hpos hoa ⊢
  have hpl := pickN_len L (skyAt L e q) k
  repeat refine zz ?_
  refine WL_part rfl rfl (fun hc => ?_) (fun hc => ?_)
  · have hkl : k < n := by simp at hc; omega
    repeat refine zz ?_
    refine o_call rfl rfl rfl (l7Fine_ok (hL.keep hka) (he.keep hka) hn) ?_
    rintro _ w2 ⟨rfl, hk2⟩
    replace hka := hka.keep hk2
    replace hoa := hoa.keep hk2
    repeat refine zz ?_
    refine W_cond rfl (fun h => ?_) (fun h => ?_)
    · have hok := fine_ok h
      have hit := hok.1
      have hln := hok.2.1
      obtain ⟨hA, u1, f1, hcell1, hu1, _⟩ := item_get (hL.keep hka) (i := (k : Int)) (by omega) (by omega)
      repeat refine zz ?_
      refine o_call rfl rfl rfl (spec_RankOf_ok (hL.keep hka) (he.keep hka) (gi L (k : Int)).id hn) ?_
      rintro _ w3 ⟨rfl, hk3⟩
      replace hka := hka.keep hk3
      replace hoa := hoa.keep hk3
      replace hcell1 := hcell1.keep hk3
      have hsk : skyAt L e q k = decide (rankL L e (gi L (k : Int)).id < q) := rfl
      rw [← hsk] at *
      repeat refine zz ?_
      refine W_cond rfl (fun hd => ?_) (fun hd => ?_)
      · repeat refine zz ?_
        refine o_buildSlice rfl rfl rfl rfl rfl (by simp [Value.cells]) (by omega) ?_
        intro bB wB halB
        have hzB := halB.size
        have hzK := hka.size_le
        replace hka := hka.keep halB.kp
        replace hoa := hoa.keep halB.kp
        repeat refine zz ?_
        refine o_appendF (R := intR) (M := _) (gi := []) rfl rfl rfl rfl rfl (by decide) hoa (Blk.src (xs := [(gi L (k : Int)).id]) halB.blk (Rows.ints _ _)) rfl (Fresh.nil _ _) (fun b hb => by simp at hb) (fun b hb => (hoa.lt hb).2) (fun b hb => by simp at hb) (by simp only [List.length_cons, List.length_nil]; omega) (by simp only [List.length_cons, List.length_nil]; omega) (by omega) ?_
        intro vN wN hoN hbN hgN
        have hkN : Keep w wN := hka.grown hgN (fun b hb => (hoa.lt hb).1)
        repeat refine zz ?_
        exact ⟨(k + 1, vN), ⟨rfl, rfl, rfl, rfl, rfl, trivial⟩, ⟨hkN, by dsimp only; omega, fun _ => h, by dsimp only; rw [pickN_t hd]; exact hoN⟩, by dsimp only; omega⟩
      · repeat refine zz ?_
        exact ⟨(k + 1, va), ⟨rfl, rfl, rfl, rfl, rfl, trivial⟩, ⟨hka, by dsimp only; omega, fun _ => h, by dsimp only; rw [pickN_f hd]; exact hoa⟩, by dsimp only; omega⟩
    · repeat refine zz ?_
      obtain ⟨fp, hs, hf⟩ := hoa.sl (by decide)
      refine ret1 rfl rfl ⟨hka, fp, ?_, hf⟩
      obtain rfl : k = 0 := by
        rcases Nat.eq_zero_or_pos k with h0 | h0
        · exact h0
        · have := hpos h0; rw [h] at this; cases this
      have e : pickN L (skyAt L e q) 0 = [] := by unfold pickN; rfl
      rw [e] at hs
      rw [pickIf, if_neg (by simp [h])]; exact hs
  · simp at hc
    obtain rfl : k = n := by omega
    repeat refine zz ?_
    obtain ⟨fp, hs, hf⟩ := hoa.sl (by decide)
    refine ret1 rfl rfl ⟨hka, fp, ?_, hf⟩
    by_cases hg : fine L e = true
    · rw [pickIf, if_pos hg, ← hnx]; exact hs
    · obtain rfl : k = 0 := by
        rcases Nat.eq_zero_or_pos k with h0 | h0
        · exact h0
        · exact absurd (hpos h0) hg
      have e : pickN L (skyAt L e q) 0 = [] := by unfold pickN; rfl
      rw [e] at hs
      rw [pickIf, if_neg hg]; exact hs

set_option maxHeartbeats 1000000 in
theorem impl_SkybandOf_ok {w : World} {v u : Value} {L : List Itm} {e : List Nod} {fp gp : List Nat} (hL : Sl itemR w v L fp) (he : Sl nodeR w u e gp) (q : Int) (hn : e.length + totN e ≤ 1048576) :
    Run Try.prog 79 [v, u, .int .i64 q] w (fun r w' => Keep w w' ∧ ∃ fp, Sl intR w' r (pickIf (fine L e) L (skyAt L e q)) fp ∧ Fresh w.heap.size w' fp) := by
  obtain ⟨A, n, c, rfl, hnx⟩ := hL.split
  refine Run_intro Try.func79 (by unfold CallOk; kernel_rfl) rfl Try.ntmps79 (Nat.le_of_ble_eq_true rfl) ?_
  simp only [penv, Nat.reduceAdd, Nat.zero_add]
  repeat refine zz ?_
  refine o_buildSlice rfl rfl rfl rfl rfl (by intro p hp; cases hp) (by omega) ?_
  intro b0 w1 hal
  have ho : OwnF intR w1 w.heap.size 3 (.slice (some ⟨b0, 0, none⟩) 0 0) [] [] := OwnF.made hal.blk (by have := hal.b_eq; omega)
  have hk := hal.kp
  repeat refine zz ?_
  refine o_call rfl rfl rfl (areBoth_ok (hL.keep hk) (he.keep hk) hn) ?_
  rintro _ w2 ⟨rfl, hk2⟩
  replace hk := hk.keep hk2
  replace ho := ho.keep hk2
  repeat refine zz ?_
  refine W_cond rfl (fun h => ?_) (fun h => ?_)
  · simp at h
    repeat refine zz ?_
    obtain ⟨fp, hs, hf⟩ := ho.sl (by decide)
    exact ret1 rfl rfl ⟨hk, fp, by rw [pickIf, if_neg (by simp [h])]; exact hs, hf⟩
  simp at h
  have hok := fine_ok h
  have hit := hok.1
  have hln := hok.2.1
  repeat refine zz ?_
  refine W_loop (S := Nat × Value) (fun s => [(0, .slice A n c), (1, u), (2, .int .i64 q), (7, s.2), (16, .slice A n c), (17, .int .i64 n), (18, .int .i64 (s.1 : Int))]) (fun s w' => Keep w w' ∧ s.1 ≤ n ∧ OwnF intR w' w.heap.size 3 s.2 (pickN L (skyAt L e q) s.1) []) (fun s => n - s.1) (0, _) ⟨rfl, rfl, rfl, rfl, rfl, rfl, rfl, trivial⟩ ⟨hk, Nat.zero_le _, by unfold pickN; exact ho⟩ ?_
  clear ho hal hk hk2
  rintro ⟨k, va⟩ wa ⟨hka, hkn, hoa⟩
  dsimp only at hkn hoa ⊢
  have hpl := pickN_len L (skyAt L e q) k
  repeat refine zz ?_
  refine W_cond rfl (fun hc => ?_) (fun hc => ?_)
  · have hkl : k < n := by simp at hc; omega
    obtain ⟨hA, u2, f2, hcell, hu2, _⟩ := item_get (hL.keep hka) (i := (k : Int)) (by omega) (by omega)
    have o2 := hu2.oneCell
    repeat refine zz ?_
    refine o_alloc rfl rfl ?_
    intro bR wR halR
    have hbR0 := halR.blk
    repeat refine zz ?_
    refine o_storeS (b := bR) (off := 0) rfl rfl rfl rfl (by repeat (first | exact ones_nil | refine ones_cons (by first | rfl | assumption) ?_)) rfl hbR0 (by simp) ?_
    intro wS huS
    have hbR : Blk wS bR _ [.int .i64 (gi L (k : Int)).id, u2] := huS.blk
    have hkS := halR.kp.upd huS (Nat.le_of_eq halR.b_eq.symm)
    have hRe := halR.b_eq
    clear hbR0 huS halR
    replace hka := hka.keep hkS
    replace hoa := hoa.keep hkS
    replace hu2 := hu2.keep hkS
    clear hcell
    have hb2 := hbR
    clear hbR hRe hkS
    repeat refine zz ?_
    refine o_call rfl rfl rfl (impl_RankOf_ok (hL.keep hka) (he.keep hka) (gi L (k : Int)).id hn) ?_
    rintro _ w3 ⟨rfl, hk3⟩
    replace hka := hka.keep hk3
    replace hoa := hoa.keep hk3
    replace hb2 := hb2.keep hk3
    have hsk : skyAt L e q k = decide (rankL L e (gi L (k : Int)).id < q) := rfl
    repeat refine zz ?_
    rw [← hsk]
    refine W_cond rfl (fun hd => ?_) (fun hd => ?_)
    · repeat refine zz ?_
      refine o_buildSlice rfl rfl rfl rfl rfl (by simp [Value.cells]) (by omega) ?_
      intro bB wB halB
      have hzB := halB.size
      have hzK := hka.size_le
      replace hka := hka.keep halB.kp
      replace hoa := hoa.keep halB.kp
      repeat refine zz ?_
      refine o_appendF (R := intR) (M := _) (gi := []) rfl rfl rfl rfl rfl (by decide) hoa (Blk.src (xs := [(gi L (k : Int)).id]) halB.blk (Rows.ints _ _)) rfl (Fresh.nil _ _) (fun b hb => by simp at hb) (fun b hb => (hoa.lt hb).2) (fun b hb => by simp at hb) (by simp only [List.length_cons, List.length_nil]; omega) (by simp only [List.length_cons, List.length_nil]; omega) (by omega) ?_
      intro vN wN hoN hbN hgN
      have hkN : Keep w wN := hka.grown hgN (fun b hb => (hoa.lt hb).1)
      repeat refine zz ?_
      exact ⟨(k + 1, vN), ⟨rfl, rfl, rfl, rfl, rfl, rfl, rfl, trivial⟩, ⟨hkN, by dsimp only; omega, by dsimp only; rw [pickN_t hd]; exact hoN⟩, by dsimp only; omega⟩
    · repeat refine zz ?_
      exact ⟨(k + 1, va), ⟨rfl, rfl, rfl, rfl, rfl, rfl, rfl, trivial⟩, ⟨hka, by dsimp only; omega, by dsimp only; rw [pickN_f hd]; exact hoa⟩, by dsimp only; omega⟩
  · simp at hc
    obtain rfl : k = n := by omega
    repeat refine zz ?_
    obtain ⟨fp, hs, hf⟩ := hoa.sl (by decide)
    exact ret1 rfl rfl ⟨hka, fp, by rw [pickIf, if_pos h, ← hnx]; exact hs, hf⟩

set_option maxHeartbeats 1000000 in
theorem spec_VetoFree_ok {w : World} {v u : Value} {L : List Itm} {g : List (List Nod)} {fp gp : List Nat} (hL : Sl itemR w v L fp) (he : Sl (slR nodeR) w u g gp) (q : Int) (hn : g.length + totNS g ≤ 1048576) :
    Run Try.prog 101 [v, u, .int .i64 q] w (fun r w' => Keep w w' ∧ ∃ fp, Sl intR w' r (pickIf (poll L g) L (vetoAt L g q)) fp ∧ Fresh w.heap.size w' fp) := by
  obtain ⟨A, n, c, rfl, hnx⟩ := hL.split
  obtain ⟨Ag, m, cg, rfl, hmg⟩ := he.split
  refine Run_intro Try.func101 (by unfold CallOk; kernel_rfl) rfl Try.ntmps101 (Nat.le_of_ble_eq_true rfl) ?_
  simp only [penv, Nat.reduceAdd, Nat.zero_add]
  repeat refine zz ?_
  refine o_buildSlice rfl rfl rfl rfl rfl (by intro p hp; cases hp) (by omega) ?_
  intro b0 w1 hal
  have ho : OwnF intR w1 w.heap.size 3 (.slice (some ⟨b0, 0, none⟩) 0 0) [] [] := OwnF.made hal.blk (by have := hal.b_eq; omega)
  have hk := hal.kp
  repeat refine zz ?_
  refine W_loop (S := Nat × Value) (fun s => [(0, .slice A n c), (1, .slice Ag m cg), (2, .int .i64 q), (7, s.2), (8, .int .i64 (s.1 : Int))]) (fun s w' => Keep w w' ∧ s.1 ≤ n ∧ (0 < s.1 → poll L g = true) ∧ OwnF intR w' w.heap.size 3 s.2 (pickN L (vetoAt L g q) s.1) []) (fun s => n - s.1) (0, _) ⟨rfl, rfl, rfl, rfl, rfl, trivial⟩ ⟨hk, Nat.zero_le _, fun h => absurd h (by simp), by unfold pickN; exact ho⟩ ?_
  clear ho hal hk
  rintro ⟨k, va⟩ wa ⟨hka, hkn, hpos, hoa⟩
  dsimp only at hkn hpos hoa ⊢
  have hpl := pickN_len L (vetoAt L g q) k
  repeat refine zz ?_
  refine WL_part rfl rfl (fun hc => ?_) (fun hc => ?_)
  · have hkl : k < n := by simp at hc; omega
    repeat refine zz ?_
    refine o_call rfl rfl rfl (l12Fine_ok (hL.keep hka) (he.keep hka) hn) ?_
    rintro _ w2 ⟨rfl, hk2⟩
    replace hka := hka.keep hk2
    replace hoa := hoa.keep hk2
    repeat refine zz ?_
    refine W_cond rfl (fun h => ?_) (fun h => ?_)
    · have hok := poll_ok h
      have hit := hok.1
      have hln := hok.2.1
      repeat refine zz ?_
      refine W_loop (S := Nat) (fun j => [(0, .slice A n c), (1, .slice Ag m cg), (2, .int .i64 q), (7, va), (8, .int .i64 (k : Int)), (9, .bool (allB j fun v => decide (rankL L (gi g (v : Int)) (gi L (k : Int)).id ≤ q))), (10, .int .i64 (j : Int))]) (fun j w' => Keep w2 w' ∧ j ≤ m) (fun j => m - j) 0 ⟨rfl, rfl, rfl, rfl, rfl, rfl, rfl, trivial⟩ ⟨Keep.refl _, Nat.zero_le _⟩ ?_
      rintro j wb ⟨hkb, hj⟩
      have hkc := hka.keep hkb
      have hLb := hL.keep hkc
      have hgb := he.keep hkc
      repeat refine zz ?_
      refine W_cond rfl (fun hcj => ?_) (fun hcj => ?_)
      · have hjl : j < m := by simp at hcj; omega
        obtain ⟨hA, eu, fe, hce, heu, _⟩ := ns_get hgb (i := (j : Int)) (by omega) (by omega)
        have hne := totNS_each (L := g) (k := j) (by omega)
        obtain ⟨hA1, u1, f1, hcell1, hu1, _⟩ := item_get hLb (i := (k : Int)) (by omega) (by omega)
        have hsu := allB_succ j fun v => decide (rankL L (gi g (v : Int)) (gi L (k : Int)).id ≤ q)
        repeat refine zz ?_
        refine W_quiet (Keep wb) (by kernel_rfl) (by kernel_rfl) (Keep.drew _) ?_
        repeat refine qq ?_
        refine WQ_part rfl rfl (fun h9 => ?_) (fun h9 => ?_)
        · repeat refine qq ?_
          refine WQ_call rfl rfl rfl (fun w' hw' => (spec_RankOf_ok (hLb.keep hw') (heu.keep hw') _ (by omega)).kk hw') ?_
          repeat refine qq ?_
          intro wd hkd 
          repeat refine zz ?_
          exact ⟨j + 1, ⟨rfl, rfl, rfl, rfl, rfl, find_val rfl (by rw [hsu, h9]; rfl), rfl, trivial⟩, ⟨hkb.keep hkd, by omega⟩, by omega⟩
        · repeat refine qq ?_
          intro wd hkd 
          repeat refine zz ?_
          exact ⟨j + 1, ⟨rfl, rfl, rfl, rfl, rfl, find_val rfl (by rw [hsu, h9]; rfl), rfl, trivial⟩, ⟨hkb.keep hkd, by omega⟩, by omega⟩
      · simp at hcj
        obtain rfl : j = m := by omega
        obtain ⟨hA1, u1, f1, hcell1, hu1, _⟩ := item_get hLb (i := (k : Int)) (by omega) (by omega)
        replace hoa := hoa.keep hkb
        replace hka := hkc
        have hub : vetoAt L g q k = allB j fun v => decide (rankL L (gi g (v : Int)) (gi L (k : Int)).id ≤ q) := by rw [vetoAt, hmg]
        rw [← hub]
        repeat refine zz ?_
        refine W_cond rfl (fun hd => ?_) (fun hd => ?_)
        · repeat refine zz ?_
          refine o_buildSlice rfl rfl rfl rfl rfl (by simp [Value.cells]) (by omega) ?_
          intro bB wB halB
          have hzB := halB.size
          have hzK := hka.size_le
          replace hka := hka.keep halB.kp
          replace hoa := hoa.keep halB.kp
          repeat refine zz ?_
          refine o_appendF (R := intR) (M := _) (gi := []) rfl rfl rfl rfl rfl (by decide) hoa (Blk.src (xs := [(gi L (k : Int)).id]) halB.blk (Rows.ints _ _)) rfl (Fresh.nil _ _) (fun b hb => by simp at hb) (fun b hb => (hoa.lt hb).2) (fun b hb => by simp at hb) (by simp only [List.length_cons, List.length_nil]; omega) (by simp only [List.length_cons, List.length_nil]; omega) (by omega) ?_
          intro vN wN hoN hbN hgN
          have hkN : Keep w wN := hka.grown hgN (fun b hb => (hoa.lt hb).1)
          repeat refine zz ?_
          exact ⟨(k + 1, vN), ⟨rfl, rfl, rfl, rfl, rfl, trivial⟩, ⟨hkN, by dsimp only; omega, fun _ => h, by dsimp only; rw [pickN_t hd]; exact hoN⟩, by dsimp only; omega⟩
        · repeat refine zz ?_
          exact ⟨(k + 1, va), ⟨rfl, rfl, rfl, rfl, rfl, trivial⟩, ⟨hka, by dsimp only; omega, fun _ => h, by dsimp only; rw [pickN_f hd]; exact hoa⟩, by dsimp only; omega⟩
    · repeat refine zz ?_
      obtain ⟨fp, hs, hf⟩ := hoa.sl (by decide)
      refine ret1 rfl rfl ⟨hka, fp, ?_, hf⟩
      obtain rfl : k = 0 := by
        rcases Nat.eq_zero_or_pos k with h0 | h0
        · exact h0
        · have := hpos h0; rw [h] at this; cases this
      have e : pickN L (vetoAt L g q) 0 = [] := by unfold pickN; rfl
      rw [e] at hs
      rw [pickIf, if_neg (by simp [h])]; exact hs
  · simp at hc
    obtain rfl : k = n := by omega
    repeat refine zz ?_
    obtain ⟨fp, hs, hf⟩ := hoa.sl (by decide)
    refine ret1 rfl rfl ⟨hka, fp, ?_, hf⟩
    by_cases hg : poll L g = true
    · rw [pickIf, if_pos hg, ← hnx]; exact hs
    · obtain rfl : k = 0 := by
        rcases Nat.eq_zero_or_pos k with h0 | h0
        · exact h0
        · exact absurd (hpos h0) hg
      have e : pickN L (vetoAt L g q) 0 = [] := by unfold pickN; rfl
      rw [e] at hs
      rw [pickIf, if_neg hg]; exact hs

set_option maxHeartbeats 1000000 in
theorem impl_VetoFree_ok {w : World} {v u : Value} {L : List Itm} {g : List (List Nod)} {fp gp : List Nat} (hL : Sl itemR w v L fp) (he : Sl (slR nodeR) w u g gp) (q : Int) (hn : g.length + totNS g ≤ 1048576) :
    Run Try.prog 100 [v, u, .int .i64 q] w (fun r w' => Keep w w' ∧ ∃ fp, Sl intR w' r (pickIf (poll L g) L (vetoAt L g q)) fp ∧ Fresh w.heap.size w' fp) := by
  obtain ⟨A, n, c, rfl, hnx⟩ := hL.split
  obtain ⟨Ag, m, cg, rfl, hmg⟩ := he.split
  refine Run_intro Try.func100 (by unfold CallOk; kernel_rfl) rfl Try.ntmps100 (Nat.le_of_ble_eq_true rfl) ?_
  simp only [penv, Nat.reduceAdd, Nat.zero_add]
  repeat refine zz ?_
  refine o_buildSlice rfl rfl rfl rfl rfl (by intro p hp; cases hp) (by omega) ?_
  intro b0 w1 hal
  have ho : OwnF intR w1 w.heap.size 3 (.slice (some ⟨b0, 0, none⟩) 0 0) [] [] := OwnF.made hal.blk (by have := hal.b_eq; omega)
  have hk := hal.kp
  repeat refine zz ?_
  refine o_call rfl rfl rfl (isPoll_ok (hL.keep hk) (he.keep hk) hn) ?_
  rintro _ w2 ⟨rfl, hk2⟩
  replace hk := hk.keep hk2
  replace ho := ho.keep hk2
  repeat refine zz ?_
  refine W_cond rfl (fun h => ?_) (fun h => ?_)
  · simp at h
    repeat refine zz ?_
    obtain ⟨fp, hs, hf⟩ := ho.sl (by decide)
    exact ret1 rfl rfl ⟨hk, fp, by rw [pickIf, if_neg (by simp [h])]; exact hs, hf⟩
  simp at h
  have hok := poll_ok h
  have hit := hok.1
  have hln := hok.2.1
  repeat refine zz ?_
  refine W_loop (S := Nat × Value) (fun s => [(0, .slice A n c), (1, .slice Ag m cg), (2, .int .i64 q), (7, s.2), (19, .slice A n c), (20, .int .i64 n), (21, .int .i64 (s.1 : Int))]) (fun s w' => Keep w w' ∧ s.1 ≤ n ∧ OwnF intR w' w.heap.size 3 s.2 (pickN L (vetoAt L g q) s.1) []) (fun s => n - s.1) (0, _) ⟨rfl, rfl, rfl, rfl, rfl, rfl, rfl, trivial⟩ ⟨hk, Nat.zero_le _, by unfold pickN; exact ho⟩ ?_
  clear ho hal hk hk2
  rintro ⟨k, va⟩ wa ⟨hka, hkn, hoa⟩
  dsimp only at hkn hoa ⊢
  have hpl := pickN_len L (vetoAt L g q) k
  repeat refine zz ?_
  refine W_cond rfl (fun hc => ?_) (fun hc => ?_)
  · have hkl : k < n := by simp at hc; omega
    obtain ⟨hA, u2, f2, hcell, hu2, _⟩ := item_get (hL.keep hka) (i := (k : Int)) (by omega) (by omega)
    have o2 := hu2.oneCell
    repeat refine zz ?_
    refine o_alloc rfl rfl ?_
    intro bR wR halR
    have hbR0 := halR.blk
    repeat refine zz ?_
    refine o_storeS (b := bR) (off := 0) rfl rfl rfl rfl (by repeat (first | exact ones_nil | refine ones_cons (by first | rfl | assumption) ?_)) rfl hbR0 (by simp) ?_
    intro wS huS
    have hbR : Blk wS bR _ [.int .i64 (gi L (k : Int)).id, u2] := huS.blk
    have hkS := halR.kp.upd huS (Nat.le_of_eq halR.b_eq.symm)
    have hRe := halR.b_eq
    clear hbR0 huS halR
    replace hka := hka.keep hkS
    replace hoa := hoa.keep hkS
    replace hu2 := hu2.keep hkS
    clear hcell
    have hb2 := hbR
    clear hbR hRe hkS
    repeat refine zz ?_
    refine W_loop (S := Nat) (fun j => [(0, .slice A n c), (1, .slice Ag m cg), (2, .int .i64 q), (7, va), (19, .slice A n c), (20, .int .i64 n), (21, .int .i64 (k : Int)), (9, .pointer (some ⟨bR, 0, none⟩)), (10, .bool (allB j fun v => decide (rankL L (gi g (v : Int)) (gi L (k : Int)).id ≤ q))), (25, .slice Ag m cg), (26, .int .i64 m), (27, .int .i64 (j : Int))]) (fun j w' => Keep wS w' ∧ j ≤ m) (fun j => m - j) 0 ⟨rfl, rfl, rfl, rfl, rfl, rfl, rfl, rfl, rfl, rfl, rfl, rfl, trivial⟩ ⟨Keep.refl _, Nat.zero_le _⟩ ?_
    rintro j wb ⟨hkb, hj⟩
    have hkc := hka.keep hkb
    have hLb := hL.keep hkc
    have hgb := he.keep hkc
    have hbO := hb2.keep hkb
    repeat refine zz ?_
    refine W_cond rfl (fun hcj => ?_) (fun hcj => ?_)
    · have hjl : j < m := by simp at hcj; omega
      obtain ⟨hA, eu, fe, hce, heu, _⟩ := ns_get hgb (i := (j : Int)) (by omega) (by omega)
      have hne := totNS_each (L := g) (k := j) (by omega)
      have hsu := allB_succ j fun v => decide (rankL L (gi g (v : Int)) (gi L (k : Int)).id ≤ q)
      repeat refine zz ?_
      refine WL_part rfl rfl (fun h9 => ?_) (fun h9 => ?_)
      · repeat refine zz ?_
        refine o_call rfl rfl rfl (impl_RankOf_ok hLb heu _ (by omega)) ?_
        rintro _ wd ⟨rfl, hkd⟩
        repeat refine zz ?_
        exact ⟨j + 1, ⟨rfl, rfl, rfl, rfl, rfl, rfl, rfl, rfl, find_val rfl (by rw [hsu, h9]; rfl), rfl, rfl, rfl, trivial⟩, ⟨hkb.keep hkd, by omega⟩, by omega⟩
      · repeat refine zz ?_
        exact ⟨j + 1, ⟨rfl, rfl, rfl, rfl, rfl, rfl, rfl, rfl, find_val rfl (by rw [hsu, h9]; rfl), rfl, rfl, rfl, trivial⟩, ⟨hkb, by omega⟩, by omega⟩
    · simp at hcj
      obtain rfl : j = m := by omega
      replace hoa := hoa.keep hkb
      replace hka := hkc
      have hub : vetoAt L g q k = allB j fun v => decide (rankL L (gi g (v : Int)) (gi L (k : Int)).id ≤ q) := by rw [vetoAt, hmg]
      rw [← hub]
      repeat refine zz ?_
      refine W_cond rfl (fun hd => ?_) (fun hd => ?_)
      · repeat refine zz ?_
        refine o_buildSlice rfl rfl rfl rfl rfl (by simp [Value.cells]) (by omega) ?_
        intro bB wB halB
        have hzB := halB.size
        have hzK := hka.size_le
        replace hka := hka.keep halB.kp
        replace hoa := hoa.keep halB.kp
        repeat refine zz ?_
        refine o_appendF (R := intR) (M := _) (gi := []) rfl rfl rfl rfl rfl (by decide) hoa (Blk.src (xs := [(gi L (k : Int)).id]) halB.blk (Rows.ints _ _)) rfl (Fresh.nil _ _) (fun b hb => by simp at hb) (fun b hb => (hoa.lt hb).2) (fun b hb => by simp at hb) (by simp only [List.length_cons, List.length_nil]; omega) (by simp only [List.length_cons, List.length_nil]; omega) (by omega) ?_
        intro vN wN hoN hbN hgN
        have hkN : Keep w wN := hka.grown hgN (fun b hb => (hoa.lt hb).1)
        repeat refine zz ?_
        exact ⟨(k + 1, vN), ⟨rfl, rfl, rfl, rfl, rfl, rfl, rfl, trivial⟩, ⟨hkN, by dsimp only; omega, by dsimp only; rw [pickN_t hd]; exact hoN⟩, by dsimp only; omega⟩
      · repeat refine zz ?_
        exact ⟨(k + 1, va), ⟨rfl, rfl, rfl, rfl, rfl, rfl, rfl, trivial⟩, ⟨hka, by dsimp only; omega, by dsimp only; rw [pickN_f hd]; exact hoa⟩, by dsimp only; omega⟩
  · simp at hc
    obtain rfl : k = n := by omega
    repeat refine zz ?_
    obtain ⟨fp, hs, hf⟩ := hoa.sl (by decide)
    exact ret1 rfl rfl ⟨hka, fp, by rw [pickIf, if_pos h, ← hnx]; exact hs, hf⟩

end Go.E

/-
  Contracts: what no item beats for all voters. Conditions: as stated.
-/
import Derived.Test.YtoemiahnilmdlaaY0
set_option linter.unusedVariables false
set_option linter.unusedSimpArgs false
namespace Go.E
open Go Go.RowKit Go.Proofs
attribute [local irreducible] W WL WD WE thenE inE retQ PureOp Keep Cell Cells Blk Sl Rows Own Src Fresh
attribute [local irreducible] cmpE isExpr areItems pickN poll fine allB

set_option maxHeartbeats 1000000 in
theorem l12Beats_ok {w : World} {v vx vy : Value} {g : List (List Nod)} {x y : Itm} {gp fx fy : List Nat} (hg : Sl (slR nodeR) w v g gp) (hx : Sl intR w vx x.vals fx) (hy : Sl intR w vy y.vals fy) (hex : ∀ i : Nat, i < g.length → isExpr (gi g (i : Int)) = true) (ix : isItem x = true) (iy : isItem y = true) :
    Run Try.prog 198 [v, .agg #[.int .i64 x.id, vx], .agg #[.int .i64 y.id, vy]] w (fun r w' => r = .bool (beatsAll g x y) ∧ Keep w w') := by
  have hgl := hg.le
  obtain ⟨Ag, m, cg, rfl, hmg⟩ := hg.split
  refine Run_intro Try.func198 (by unfold CallOk; kernel_rfl) rfl Try.ntmps198 (Nat.le_of_ble_eq_true rfl) ?_
  simp only [penv, Nat.reduceAdd, Nat.zero_add]
  repeat refine zz ?_
  refine o_boxS rfl rfl rfl ?_
  intro b1 w1 hal1
  have hb1 := hal1.blk
  have hk := hal1.kp
  replace hg := hg.keep hal1.kp
  replace hx := hx.keep hal1.kp
  replace hy := hy.keep hal1.kp
  repeat refine zz ?_
  refine o_boxS rfl rfl rfl ?_
  intro b2 w2 hal2
  have hb2 := hal2.blk
  replace hk := hk.keep hal2.kp
  replace hb1 := hb1.keep hal2.kp
  replace hg := hg.keep hal2.kp
  replace hx := hx.keep hal2.kp
  replace hy := hy.keep hal2.kp
  repeat refine zz ?_
  refine W_loop (S := Nat) (fun j => [(0, .slice Ag m cg), (4, .pointer (some ⟨b1, 0, none⟩)), (5, .pointer (some ⟨b2, 0, none⟩)), (7, .bool (!allB j fun v => decide (cmpE (gi g (v : Int)) x y ≠ 1))), (8, .int .i64 (j : Int))]) (fun j w' => Keep w2 w' ∧ j ≤ m ∧ (allB j fun v => decide (cmpE (gi g (v : Int)) x y = 1) || decide (cmpE (gi g (v : Int)) x y = 0)) = true) (fun j => m - j) 0 ⟨rfl, rfl, rfl, find_val rfl (by unfold allB; rfl), rfl, trivial⟩ ⟨Keep.refl _, Nat.zero_le _, by unfold allB; rfl⟩ ?_
  rintro j wa ⟨hka, hj, hall⟩
  have hga := hg.keep hka
  have hxa := hx.keep hka
  have hya := hy.keep hka
  have hba := hb1.keep hka
  have hbb := hb2.keep hka
  repeat refine zz ?_
  refine W_cond rfl (fun hc => ?_) (fun hc => ?_)
  · have hjl : j < m := by simp at hc; omega
    obtain ⟨hA, eu, fe, hce, heu, _⟩ := ns_get hga (i := (j : Int)) (by omega) (by omega)
    have hs1 := allB_succ j fun v => decide (cmpE (gi g (v : Int)) x y ≠ 1)
    have hs2 := allB_succ j fun v => decide (cmpE (gi g (v : Int)) x y = 1) || decide (cmpE (gi g (v : Int)) x y = 0)
    repeat refine zz ?_
    refine W_quiet (Keep wa) (by kernel_rfl) (by kernel_rfl) (Keep.drew _) ?_
    repeat refine qq ?_
    refine WQ_call rfl rfl rfl (fun w' hw' => (l5Compare_ok (heu.keep hw') (hxa.keep hw') (hya.keep hw') (hex j (by omega)) ix iy).kk hw') ?_
    repeat refine qq ?_
    intro wc hkc 
    repeat refine zz ?_
    refine WL_part rfl rfl (fun h1 => ?_) (fun h1 => ?_)
    · simp only [decide_eq_true_eq] at h1
      repeat refine zz ?_
      refine W_cond rfl (fun h0 => ?_) (fun h0 => ?_)
      · simp only [decide_eq_true_eq] at h0
        repeat refine zz ?_
        refine ret1 rfl rfl ⟨?_, hk.keep (hka.keep hkc)⟩
        rw [beatsAll, allB_false (k := j) (by omega) (by simp [h1, h0]), Bool.false_and]
      · simp only [decide_eq_false_iff_not, Classical.not_not] at h0
        repeat refine zz ?_
        refine WL_part rfl rfl (fun hp => ?_) (fun hp => ?_)
        · repeat refine zz ?_
          exact ⟨j + 1, ⟨rfl, rfl, rfl, find_val rfl (by rw [hs1, Bool.not_and, hp]; rfl), rfl, trivial⟩, ⟨hka.keep hkc, by omega, by rw [hs2, hall, h0]; rfl⟩, by omega⟩
        · repeat refine zz ?_
          exact ⟨j + 1, ⟨rfl, rfl, rfl, find_val rfl (by rw [hs1, Bool.not_and, hp, h0]; rfl), rfl, trivial⟩, ⟨hka.keep hkc, by omega, by rw [hs2, hall, h0]; rfl⟩, by omega⟩
    · simp only [decide_eq_false_iff_not, Classical.not_not] at h1
      repeat refine zz ?_
      try (refine WL_part rfl rfl (fun hc => by exfalso; first | (simp at hc; done) | (simp at hc; omega) | omega) (fun _ => ?_))
      repeat refine zz ?_
      try (refine W_cond rfl (fun hc => by exfalso; first | (simp at hc; done) | (simp at hc; omega) | omega) (fun _ => ?_))
      repeat refine zz ?_
      refine WL_part rfl rfl (fun hp => ?_) (fun hp => ?_)
      · repeat refine zz ?_
        exact ⟨j + 1, ⟨rfl, rfl, rfl, find_val rfl (by rw [hs1, h1]; simp), rfl, trivial⟩, ⟨hka.keep hkc, by omega, by rw [hs2, hall, h1]; rfl⟩, by omega⟩
      · repeat refine zz ?_
        exact ⟨j + 1, ⟨rfl, rfl, rfl, find_val rfl (by rw [hs1, h1]; simp), rfl, trivial⟩, ⟨hka.keep hkc, by omega, by rw [hs2, hall, h1]; rfl⟩, by omega⟩
  · simp at hc
    obtain rfl : j = m := by omega
    repeat refine zz ?_
    exact ret1 rfl rfl ⟨by rw [beatsAll, ← hmg, hall, Bool.true_and], hk.keep hka⟩
attribute [local irreducible] beatsAll

set_option maxHeartbeats 1000000 in
theorem spec_UnanimousBest_ok {w : World} {v u : Value} {L : List Itm} {g : List (List Nod)} {fp gp : List Nat} (hL : Sl itemR w v L fp) (he : Sl (slR nodeR) w u g gp) (hn : g.length + totNS g ≤ 1048576) :
    Run Try.prog 89 [v, u] w (fun r w' => Keep w w' ∧ ∃ fp, Sl intR w' r (pickIf (poll L g) L (unanAt L g)) fp ∧ Fresh w.heap.size w' fp) := by
  obtain ⟨A, n, c, rfl, hnx⟩ := hL.split
  obtain ⟨Ag, m, cg, rfl, hmg⟩ := he.split
  refine Run_intro Try.func89 (by unfold CallOk; kernel_rfl) rfl Try.ntmps89 (Nat.le_of_ble_eq_true rfl) ?_
  simp only [penv, Nat.reduceAdd, Nat.zero_add]
  repeat refine zz ?_
  refine o_buildSlice rfl rfl rfl rfl rfl (by intro p hp; cases hp) (by omega) ?_
  intro b0 w1 hal
  have ho : OwnF intR w1 w.heap.size 3 (.slice (some ⟨b0, 0, none⟩) 0 0) [] [] := OwnF.made hal.blk (by have := hal.b_eq; omega)
  have hk := hal.kp
  repeat refine zz ?_
  refine W_loop (S := Nat × Value) (fun s => [(0, .slice A n c), (1, .slice Ag m cg), (5, s.2), (6, .int .i64 (s.1 : Int))]) (fun s w' => Keep w w' ∧ s.1 ≤ n ∧ (0 < s.1 → poll L g = true) ∧ OwnF intR w' w.heap.size 3 s.2 (pickN L (unanAt L g) s.1) []) (fun s => n - s.1) (0, _) ⟨rfl, rfl, rfl, rfl, trivial⟩ ⟨hk, Nat.zero_le _, fun h => absurd h (by simp), by unfold pickN; exact ho⟩ ?_
  clear ho hal hk
  rintro ⟨k, va⟩ wa ⟨hka, hkn, hpos, hoa⟩
  dsimp only at hkn hpos hoa ⊢
  have hpl := pickN_len L (unanAt L g) k
  repeat refine zz ?_
  refine WL_part rfl rfl (fun hc => ?_) (fun hc => ?_)
  · have hkl : k < n := by simp at hc; omega
    repeat refine zz ?_
    refine o_call rfl rfl rfl (l12Fine_ok (hL.keep hka) (he.keep hka) hn) ?_
    rintro _ w2 ⟨rfl, hk2⟩
    replace hka := hka.keep hk2
    replace hoa := hoa.keep hk2
    repeat refine zz ?_
    refine W_cond rfl (fun h => ?_) (fun h => ?_)
    · have hok := poll_ok h
      have hit := hok.1
      have hln := hok.2.1
      repeat refine zz ?_
      refine W_loop (S := Nat) (fun j => [(0, .slice A n c), (1, .slice Ag m cg), (5, va), (6, .int .i64 (k : Int)), (7, .bool (allB j fun i => !beatsAll g (gi L (i : Int)) (gi L (k : Int)))), (8, .int .i64 (j : Int))]) (fun j w' => Keep w2 w' ∧ j ≤ n) (fun j => n - j) 0 ⟨rfl, rfl, rfl, rfl, find_val rfl (by unfold allB; rfl), rfl, trivial⟩ ⟨Keep.refl _, Nat.zero_le _⟩ ?_
      rintro j wb ⟨hkb, hj⟩
      have hkc := hka.keep hkb
      have hLb := hL.keep hkc
      have hgb := he.keep hkc
      repeat refine zz ?_
      refine W_cond rfl (fun hcj => ?_) (fun hcj => ?_)
      · have hjl : j < n := by simp at hcj; omega
        obtain ⟨hA1, u1, f1, hcell1, hu1, _⟩ := item_get hLb (i := (k : Int)) (by omega) (by omega)
        obtain ⟨_, u3, f3, hcell3, hu3, _⟩ := item_get hLb (i := (j : Int)) (by omega) (by omega)
        have hsu := allB_succ j fun i => !beatsAll g (gi L (i : Int)) (gi L (k : Int))
        have o1 := hu1.oneCell
        have o3 := hu3.oneCell
        repeat refine zz ?_
        refine W_quiet (Keep wb) (by kernel_rfl) (by kernel_rfl) (Keep.drew _) ?_
        repeat refine qq ?_
        refine WQ_part rfl rfl (fun h9 => ?_) (fun h9 => ?_)
        · repeat refine qq ?_
          refine WQ_call rfl rfl rfl (fun w' hw' => (l12Beats_ok (hgb.keep hw') (hu3.keep hw') (hu1.keep hw') hok.2.2.1 (hit j (by omega)) (hit k (by omega))).kk hw') ?_
          repeat refine qq ?_
          intro wd hkd 
          repeat refine zz ?_
          exact ⟨j + 1, ⟨rfl, rfl, rfl, rfl, find_val rfl (by rw [hsu, h9]; rfl), rfl, trivial⟩, ⟨hkb.keep hkd, by omega⟩, by omega⟩
        · repeat refine qq ?_
          intro wd hkd 
          repeat refine zz ?_
          exact ⟨j + 1, ⟨rfl, rfl, rfl, rfl, find_val rfl (by rw [hsu, h9]; rfl), rfl, trivial⟩, ⟨hkb.keep hkd, by omega⟩, by omega⟩
      · simp at hcj
        obtain rfl : j = n := by omega
        obtain ⟨hA1, u1, f1, hcell1, hu1, _⟩ := item_get hLb (i := (k : Int)) (by omega) (by omega)
        replace hoa := hoa.keep hkb
        replace hka := hkc
        have hub : unanAt L g k = allB j fun i => !beatsAll g (gi L (i : Int)) (gi L (k : Int)) := by rw [unanAt, hnx]
        rw [← hub]
        repeat refine zz ?_
        refine W_cond rfl (fun hd => ?_) (fun hd => ?_)
        · repeat refine zz ?_
          refine o_buildSlice rfl rfl rfl rfl rfl (by simp [Value.cells]) (by omega) ?_
          intro bB wB halB
          have hzB := halB.size
          have hzK := hka.size_le
          replace hka := hka.keep halB.kp
          replace hoa := hoa.keep halB.kp
          repeat refine zz ?_
          refine o_appendF (R := intR) (M := _) (gi := []) rfl rfl rfl rfl rfl (by decide) hoa (Blk.src (xs := [(gi L (k : Int)).id]) halB.blk (Rows.ints _ _)) rfl (Fresh.nil _ _) (fun b hb => by simp at hb) (fun b hb => (hoa.lt hb).2) (fun b hb => by simp at hb) (by simp only [List.length_cons, List.length_nil]; omega) (by simp only [List.length_cons, List.length_nil]; omega) (by omega) ?_
          intro vN wN hoN hbN hgN
          have hkN : Keep w wN := hka.grown hgN (fun b hb => (hoa.lt hb).1)
          repeat refine zz ?_
          exact ⟨(k + 1, vN), ⟨rfl, rfl, rfl, rfl, trivial⟩, ⟨hkN, by dsimp only; omega, fun _ => h, by dsimp only; rw [pickN_t hd]; exact hoN⟩, by dsimp only; omega⟩
        · repeat refine zz ?_
          exact ⟨(k + 1, va), ⟨rfl, rfl, rfl, rfl, trivial⟩, ⟨hka, by dsimp only; omega, fun _ => h, by dsimp only; rw [pickN_f hd]; exact hoa⟩, by dsimp only; omega⟩
    · repeat refine zz ?_
      obtain ⟨fp, hs, hf⟩ := hoa.sl (by decide)
      refine ret1 rfl rfl ⟨hka, fp, ?_, hf⟩
      obtain rfl : k = 0 := by
        rcases Nat.eq_zero_or_pos k with h0 | h0
        · exact h0
        · have := hpos h0; rw [h] at this; cases this
      have e : pickN L (unanAt L g) 0 = [] := by unfold pickN; rfl
      rw [e] at hs
      rw [pickIf, if_neg (by simp [h])]; exact hs
  · simp at hc
    obtain rfl : k = n := by omega
    repeat refine zz ?_
    obtain ⟨fp, hs, hf⟩ := hoa.sl (by decide)
    refine ret1 rfl rfl ⟨hka, fp, ?_, hf⟩
    by_cases hg : poll L g = true
    · rw [pickIf, if_pos hg, ← hnx]; exact hs
    · obtain rfl : k = 0 := by
        rcases Nat.eq_zero_or_pos k with h0 | h0
        · exact h0
        · exact absurd (hpos h0) hg
      have e : pickN L (unanAt L g) 0 = [] := by unfold pickN; rfl
      rw [e] at hs
      rw [pickIf, if_neg hg]; exact hs

set_option maxHeartbeats 1000000 in
theorem impl_UnanimousBest_ok {w : World} {v u : Value} {L : List Itm} {g : List (List Nod)} {fp gp : List Nat} (hL : Sl itemR w v L fp) (he : Sl (slR nodeR) w u g gp) (hn : g.length + totNS g ≤ 1048576) :
    Run Try.prog 86 [v, u] w (fun r w' => Keep w w' ∧ ∃ fp, Sl intR w' r (pickIf (poll L g) L (unanAt L g)) fp ∧ Fresh w.heap.size w' fp) := by
  obtain ⟨A, n, c, rfl, hnx⟩ := hL.split
  obtain ⟨Ag, m, cg, rfl, hmg⟩ := he.split
  refine Run_intro Try.func86 (by unfold CallOk; kernel_rfl) rfl Try.ntmps86 (Nat.le_of_ble_eq_true rfl) ?_
  simp only [penv, Nat.reduceAdd, Nat.zero_add]
  repeat refine zz ?_
  refine o_buildSlice rfl rfl rfl rfl rfl (by intro p hp; cases hp) (by omega) ?_
  intro b0 w1 hal
  have ho : OwnF intR w1 w.heap.size 3 (.slice (some ⟨b0, 0, none⟩) 0 0) [] [] := OwnF.made hal.blk (by have := hal.b_eq; omega)
  have hk := hal.kp
  repeat refine zz ?_
  refine o_call rfl rfl rfl (isPoll_ok (hL.keep hk) (he.keep hk) hn) ?_
  rintro _ w2 ⟨rfl, hk2⟩
  replace hk := hk.keep hk2
  replace ho := ho.keep hk2
  repeat refine zz ?_
  refine W_cond rfl (fun h => ?_) (fun h => ?_)
  · simp at h
    repeat refine zz ?_
    obtain ⟨fp, hs, hf⟩ := ho.sl (by decide)
    exact ret1 rfl rfl ⟨hk, fp, by rw [pickIf, if_neg (by simp [h])]; exact hs, hf⟩
  simp at h
  have hok := poll_ok h
  have hit := hok.1
  have hln := hok.2.1
  repeat refine zz ?_
  refine W_loop (S := Nat × Value) (fun s => [(0, .slice A n c), (1, .slice Ag m cg), (5, s.2), (21, .slice A n c), (22, .int .i64 n), (23, .int .i64 (s.1 : Int))]) (fun s w' => Keep w w' ∧ s.1 ≤ n ∧ OwnF intR w' w.heap.size 3 s.2 (pickN L (unanAt L g) s.1) []) (fun s => n - s.1) (0, _) ⟨rfl, rfl, rfl, rfl, rfl, rfl, trivial⟩ ⟨hk, Nat.zero_le _, by unfold pickN; exact ho⟩ ?_
  clear ho hal hk hk2
  rintro ⟨k, va⟩ wa ⟨hka, hkn, hoa⟩
  dsimp only at hkn hoa ⊢
  have hpl := pickN_len L (unanAt L g) k
  repeat refine zz ?_
  refine W_cond rfl (fun hc => ?_) (fun hc => ?_)
  · have hkl : k < n := by simp at hc; omega
    obtain ⟨hA, u2, f2, hcell, hu2, _⟩ := item_get (hL.keep hka) (i := (k : Int)) (by omega) (by omega)
    have o2 := hu2.oneCell
    repeat refine zz ?_
    refine o_alloc rfl rfl ?_
    intro bR wR halR
    have hbR0 := halR.blk
    repeat refine zz ?_
    refine o_storeS (b := bR) (off := 0) rfl rfl rfl rfl (by repeat (first | exact ones_nil | refine ones_cons (by first | rfl | assumption) ?_)) rfl hbR0 (by simp) ?_
    intro wS huS
    have hbR : Blk wS bR _ [.int .i64 (gi L (k : Int)).id, u2] := huS.blk
    have hkS := halR.kp.upd huS (Nat.le_of_eq halR.b_eq.symm)
    have hRe := halR.b_eq
    clear hbR0 huS halR
    replace hka := hka.keep hkS
    replace hoa := hoa.keep hkS
    replace hu2 := hu2.keep hkS
    clear hcell
    have hb2 := hbR
    clear hbR hRe hkS
    repeat refine zz ?_
    refine W_loop (S := Nat) (fun j => [(0, .slice A n c), (1, .slice Ag m cg), (5, va), (21, .slice A n c), (22, .int .i64 n), (23, .int .i64 (k : Int)), (7, .pointer (some ⟨bR, 0, none⟩)), (8, .bool (allB j fun i => !beatsAll g (gi L (i : Int)) (gi L (k : Int)))), (27, .slice A n c), (28, .int .i64 n), (29, .int .i64 (j : Int))]) (fun j w' => Keep wS w' ∧ j ≤ n) (fun j => n - j) 0 ⟨rfl, rfl, rfl, rfl, rfl, rfl, rfl, find_val rfl (by unfold allB; rfl), rfl, rfl, rfl, trivial⟩ ⟨Keep.refl _, Nat.zero_le _⟩ ?_
    rintro j wb ⟨hkb, hj⟩
    repeat refine zz ?_
    refine W_cond rfl (fun hcj => ?_) (fun hcj => ?_)
    · have hjl : j < n := by simp at hcj; omega
      obtain ⟨hA1, u1, f1, hcell1, hu1, _⟩ := item_get (hL.keep (hka.keep hkb)) (i := (j : Int)) (by omega) (by omega)
      have hsu := allB_succ j fun i => !beatsAll g (gi L (i : Int)) (gi L (k : Int))
      have o1 := hu1.oneCell
      repeat refine zz ?_
      refine o_alloc rfl rfl ?_
      intro bR2 wR2 halR2
      have hbR02 := halR2.blk
      repeat refine zz ?_
      refine o_storeS (b := bR2) (off := 0) rfl rfl rfl rfl (by repeat (first | exact ones_nil | refine ones_cons (by first | rfl | assumption) ?_)) rfl hbR02 (by simp) ?_
      intro wS2 huS2
      have hbR2 : Blk wS2 bR2 _ [.int .i64 (gi L (j : Int)).id, u1] := huS2.blk
      have hkS2 := halR2.kp.upd huS2 (Nat.le_of_eq halR2.b_eq.symm)
      have hRe2 := halR2.b_eq
      clear hbR02 huS2 halR2
      replace hkb := hkb.keep hkS2
      replace hu1 := hu1.keep hkS2
      clear hkS2 hcell1
      have hgc := he.keep (hka.keep hkb)
      have hbk := hb2.keep hkb
      have hu2c := hu2.keep hkb
      repeat refine zz ?_
      refine W_loop (S := Nat) (fun t => [(0, .slice A n c), (1, .slice Ag m cg), (5, va), (21, .slice A n c), (22, .int .i64 n), (23, .int .i64 (k : Int)), (7, .pointer (some ⟨bR, 0, none⟩)), (8, .bool (allB j fun i => !beatsAll g (gi L (i : Int)) (gi L (k : Int)))), (27, .slice A n c), (28, .int .i64 n), (29, .int .i64 (j : Int)), (10, .pointer (some ⟨bR2, 0, none⟩)), (11, .bool (!allB t fun v => decide (cmpE (gi g (v : Int)) (gi L (j : Int)) (gi L (k : Int)) ≠ 1))), (12, .bool (!allB t fun v => decide (cmpE (gi g (v : Int)) (gi L (j : Int)) (gi L (k : Int)) = 1) || decide (cmpE (gi g (v : Int)) (gi L (j : Int)) (gi L (k : Int)) = 0))), (33, .slice Ag m cg), (34, .int .i64 m), (35, .int .i64 (t : Int))]) (fun t w' => Keep wS2 w' ∧ t ≤ m) (fun t => m - t) 0 ⟨rfl, rfl, rfl, rfl, rfl, rfl, rfl, rfl, rfl, rfl, rfl, rfl, find_val rfl (by unfold allB; rfl), find_val rfl (by unfold allB; rfl), rfl, rfl, rfl, trivial⟩ ⟨Keep.refl _, Nat.zero_le _⟩ ?_
      rintro t wc ⟨hkt, ht⟩
      repeat refine zz ?_
      refine W_cond rfl (fun hct => ?_) (fun hct => ?_)
      · have htl : t < m := by simp at hct; omega
        obtain ⟨hA, eu, fe, hce, heu, _⟩ := ns_get (hgc.keep hkt) (i := (t : Int)) (by omega) (by omega)
        have hs1 := allB_succ t fun v => decide (cmpE (gi g (v : Int)) (gi L (j : Int)) (gi L (k : Int)) ≠ 1)
        have hs2 := allB_succ t fun v => decide (cmpE (gi g (v : Int)) (gi L (j : Int)) (gi L (k : Int)) = 1) || decide (cmpE (gi g (v : Int)) (gi L (j : Int)) (gi L (k : Int)) = 0)
        have hbkt := hbk.keep hkt
        have hbjt := hbR2.keep hkt
        repeat refine zz ?_
        refine o_call rfl rfl rfl (compareBy_ok heu (hu1.keep hkt) (hu2c.keep hkt) (hok.2.2.1 t (by omega)) (hit j (by omega)) (hit k (by omega))) ?_
        rintro _ wd ⟨rfl, hkd⟩
        repeat refine zz ?_
        refine W_cond rfl (fun h1 => ?_) (fun h1 => ?_)
        · simp only [decide_eq_true_eq] at h1
          repeat refine zz ?_
          exact ⟨t + 1, ⟨rfl, rfl, rfl, rfl, rfl, rfl, rfl, rfl, rfl, rfl, rfl, rfl, find_val rfl (by rw [hs1, h1]; simp), find_val rfl (by rw [hs2, h1]; simp), rfl, rfl, rfl, trivial⟩, ⟨hkt.keep hkd, by omega⟩, by omega⟩
        · simp only [decide_eq_false_iff_not] at h1
          repeat refine zz ?_
          refine W_cond rfl (fun h0 => ?_) (fun h0 => ?_)
          · simp only [decide_eq_true_eq] at h0
            repeat refine zz ?_
            exact ⟨t + 1, ⟨rfl, rfl, rfl, rfl, rfl, rfl, rfl, rfl, rfl, rfl, rfl, rfl, find_val rfl (by rw [hs1, h0]; simp), find_val rfl (by rw [hs2, h0]; simp), rfl, rfl, rfl, trivial⟩, ⟨hkt.keep hkd, by omega⟩, by omega⟩
          · simp only [decide_eq_false_iff_not] at h0
            repeat refine zz ?_
            exact ⟨t + 1, ⟨rfl, rfl, rfl, rfl, rfl, rfl, rfl, rfl, rfl, rfl, rfl, rfl, find_val rfl (by rw [hs1]; simp [h1]), find_val rfl (by rw [hs2]; simp [h1, h0]), rfl, rfl, rfl, trivial⟩, ⟨hkt.keep hkd, by omega⟩, by omega⟩
      · simp at hct
        obtain rfl : t = m := by omega
        have hbd : beatsAll g (gi L (j : Int)) (gi L (k : Int)) = ((allB t fun v => decide (cmpE (gi g (v : Int)) (gi L (j : Int)) (gi L (k : Int)) = 1) || decide (cmpE (gi g (v : Int)) (gi L (j : Int)) (gi L (k : Int)) = 0)) && !allB t fun v => decide (cmpE (gi g (v : Int)) (gi L (j : Int)) (gi L (k : Int)) ≠ 1)) := by rw [beatsAll, ← hmg]
        repeat refine zz ?_
        refine WL_part rfl rfl (fun h7 => ?_) (fun h7 => ?_)
        · repeat refine zz ?_
          refine WL_part rfl rfl (fun h8 => ?_) (fun h8 => ?_)
          · repeat refine zz ?_
            exact ⟨j + 1, ⟨rfl, rfl, rfl, rfl, rfl, rfl, rfl, find_val rfl (by rw [hsu, hbd, h7, Bool.not_and, h8]; simp), rfl, rfl, rfl, trivial⟩, ⟨hkb.keep hkt, by omega⟩, by omega⟩
          · repeat refine zz ?_
            exact ⟨j + 1, ⟨rfl, rfl, rfl, rfl, rfl, rfl, rfl, find_val rfl (by rw [hsu, hbd, h7, Bool.not_and, h8]; simp), rfl, rfl, rfl, trivial⟩, ⟨hkb.keep hkt, by omega⟩, by omega⟩
        · repeat refine zz ?_
          exact ⟨j + 1, ⟨rfl, rfl, rfl, rfl, rfl, rfl, rfl, find_val rfl (by rw [hsu, h7]; rfl), rfl, rfl, rfl, trivial⟩, ⟨hkb.keep hkt, by omega⟩, by omega⟩
    · simp at hcj
      obtain rfl : j = n := by omega
      have hbO := hb2.keep hkb
      replace hoa := hoa.keep hkb
      replace hka := hka.keep hkb
      have hub : unanAt L g k = allB j fun i => !beatsAll g (gi L (i : Int)) (gi L (k : Int)) := by rw [unanAt, hnx]
      rw [← hub]
      repeat refine zz ?_
      refine W_cond rfl (fun hd => ?_) (fun hd => ?_)
      · repeat refine zz ?_
        refine o_buildSlice rfl rfl rfl rfl rfl (by simp [Value.cells]) (by omega) ?_
        intro bB wB halB
        have hzB := halB.size
        have hzK := hka.size_le
        replace hka := hka.keep halB.kp
        replace hoa := hoa.keep halB.kp
        repeat refine zz ?_
        refine o_appendF (R := intR) (M := _) (gi := []) rfl rfl rfl rfl rfl (by decide) hoa (Blk.src (xs := [(gi L (k : Int)).id]) halB.blk (Rows.ints _ _)) rfl (Fresh.nil _ _) (fun b hb => by simp at hb) (fun b hb => (hoa.lt hb).2) (fun b hb => by simp at hb) (by simp only [List.length_cons, List.length_nil]; omega) (by simp only [List.length_cons, List.length_nil]; omega) (by omega) ?_
        intro vN wN hoN hbN hgN
        have hkN : Keep w wN := hka.grown hgN (fun b hb => (hoa.lt hb).1)
        repeat refine zz ?_
        exact ⟨(k + 1, vN), ⟨rfl, rfl, rfl, rfl, rfl, rfl, trivial⟩, ⟨hkN, by dsimp only; omega, by dsimp only; rw [pickN_t hd]; exact hoN⟩, by dsimp only; omega⟩
      · repeat refine zz ?_
        exact ⟨(k + 1, va), ⟨rfl, rfl, rfl, rfl, rfl, rfl, trivial⟩, ⟨hka, by dsimp only; omega, by dsimp only; rw [pickN_f hd]; exact hoa⟩, by dsimp only; omega⟩
  · simp at hc
    obtain rfl : k = n := by omega
    repeat refine zz ?_
    obtain ⟨fp, hs, hf⟩ := hoa.sl (by decide)
    exact ret1 rfl rfl ⟨hka, fp, by rw [pickIf, if_pos h, ← hnx]; exact hs, hf⟩

end Go.E

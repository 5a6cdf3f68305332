/-
  Contract: whether sorted access has ended, by the program. Conditions: as stated.
-/
import Derived.Test.YtomkdoppjimhoaaT2
import Derived.Test.YtomkdoppjimhoaaIm
set_option linter.unusedVariables false
set_option linter.unusedSimpArgs false
namespace Go.E
open Go Go.RowKit Go.Proofs
theorem is_get {w : World} {A : Option Addr} {n c : Nat} {xss : List (List Itm)} {fp : List Nat} (h : Sl (slR itemR) w (.slice A n c) xss fp) {i : Int} (h0 : 0 ≤ i) (hi : i < n) :
    A.isSome = true ∧ ∃ u f, Cell w (ea A 1 i) u ∧ Sl itemR w u (gi xss i) f ∧ (∀ b, b ∈ f → b ∈ fp) := by
  obtain ⟨hA, cs, f, ⟨u, rfl, hu⟩, hf, hc⟩ := h.get h0 hi
  exact ⟨hA, u, f, hc.one, hu, hf⟩
theorem wf_small {x : Int} (h0 : 0 ≤ x) (h1 : x ≤ 4000) : (Lit.int .i64 x).wf = true := by
  simp only [Lit.wf, Bool.and_eq_true, decide_eq_true_eq]
  exact ⟨Int.le_trans (by decide) h0, Int.le_trans h1 (by decide)⟩
theorem gi_map_byF {L : List Itm} {f : List Int} {k : Nat} (h : k < f.length) : gi (f.map (byF L)) (k : Int) = byF L (gi f (k : Int)) := gi_mapI h
theorem byF_item {L : List Itm} (hit : ∀ i : Nat, i < L.length → isItem (gi L (i : Int)) = true) {k : Int} {n : Nat} (hn : n < L.length) : isItem (gi (byF L k) (n : Int)) = true := by
  have h := ord_at (L := L) (k := k) hn
  rw [byF_at hn]
  have := hit (gi (ordL L k) (n : Int)).toNat (by omega)
  rwa [show (((gi (ordL L k) (n : Int)).toNat : Nat) : Int) = gi (ordL L k) (n : Int) by omega] at this
attribute [local irreducible] W WL WD WE thenE inE retQ PureOp Keep Cell Cells Blk Sl Rows Own Src Fresh
attribute [local irreducible] ordL byF cnt cq IMap

set_option maxHeartbeats 4000000 in
theorem ended_ok {w : World} {v u vl : Value} {L : List Itm} {f : List Int} {fp gp hp : List Nat} {n nm b0 b2 b3 b11 b4 bm : Nat} {m : Int → Int} (hL : Sl itemR w v L fp) (hf : Sl intR w u f gp) (hls : Sl (slR itemR) w vl (f.map (byF L)) hp)
    (h0 : Blk w b0 3 [.int .i64 (n : Int)]) (h2 : Blk w b2 40 [v]) (h3 : Blk w b3 53 [u]) (h11 : Blk w b11 104 [.map (some bm)]) (h4 : Blk w b4 102 [vl]) (hm : IMap w bm nm m)
    (hn : n ≤ L.length) (hms : ∀ i : Nat, i < L.length → m (gi L (i : Int)).id = (cnt L f n (i : Int) : Int)) (hit : ∀ i : Nat, i < L.length → isItem (gi L (i : Int)) = true) (hff : isFieldList f = true) :
    Run Try.prog 86 [.pointer (some ⟨b0, 0, none⟩), .pointer (some ⟨b2, 0, none⟩), .pointer (some ⟨b3, 0, none⟩), .pointer (some ⟨b11, 0, none⟩), .pointer (some ⟨b4, 0, none⟩)] w (fun r w' => r = .bool (decide (n = L.length) || stp L f n) ∧ Keep w w') := by
  have hnL := hL.le
  have hnf := hf.le
  have hf3 := fieldList_len hff
  obtain ⟨A, nL, cL, rfl, hlL⟩ := hL.split
  obtain ⟨B, nf, cf_, rfl, hlf⟩ := hf.split
  obtain ⟨C, nl, cl, rfl, hll⟩ := hls.split
  rw [List.length_map] at hll
  have hst : stp L f n = exB L.length fun i => decide (cnt L f n (i : Int) = f.length) && exB f.length fun k => decide (fval (gi f (k : Int)) (gi L (i : Int)) < fval (gi f (k : Int)) (gi (byF L (gi f (k : Int))) (n : Int))) := rfl
  have hc0 := h0.cell (i := 0) (v := .int .i64 (n : Int)) rfl
  have hc2 := h2.cell (i := 0) (v := .slice A nL cL) rfl
  have hc3 := h3.cell (i := 0) (v := .slice B nf cf_) rfl
  have hc11 := h11.cell (i := 0) (v := .map (some bm)) rfl
  have hc4 := h4.cell (i := 0) (v := .slice C nl cl) rfl
  refine Run_intro Try.func86 (by unfold CallOk; kernel_rfl) rfl Try.ntmps86 (Nat.le_of_ble_eq_true rfl) ?_
  simp only [penv, Nat.reduceAdd, Nat.zero_add]
  repeat refine zz ?_
  refine W_cond rfl (fun he => ?_) (fun he => ?_)
  · simp at he
    repeat refine zz ?_
    exact ret1 rfl rfl ⟨by rw [decide_eq_true (show n = L.length by omega)]; rfl, Keep.refl _⟩
  simp at he
  have hnl : n < L.length := by omega
  rw [decide_eq_false (show ¬ n = L.length by omega), Bool.false_or]
  repeat refine zz ?_
  refine W_loop (S := Nat) (fun i => [(0, .pointer (some ⟨b0, 0, none⟩)), (1, .pointer (some ⟨b2, 0, none⟩)), (2, .pointer (some ⟨b3, 0, none⟩)), (3, .pointer (some ⟨b11, 0, none⟩)), (4, .pointer (some ⟨b4, 0, none⟩)), (14, .slice A nL cL), (15, .int .i64 (nL : Int)), (16, .int .i64 (i : Int))]) (fun i w' => Keep w w' ∧ i ≤ nL ∧ ∀ a, a < i → (fun i : Nat => decide (cnt L f n (i : Int) = f.length) && exB f.length fun k => decide (fval (gi f (k : Int)) (gi L (i : Int)) < fval (gi f (k : Int)) (gi (byF L (gi f (k : Int))) (n : Int)))) a = false) (fun i => nL - i) 0 ⟨rfl, rfl, rfl, rfl, rfl, rfl, rfl, rfl, trivial⟩ ⟨Keep.refl _, Nat.zero_le _, fun a h => absurd h (by omega)⟩ ?_
  rintro i wa ⟨hka, hi, hall⟩
  have hLa := hL.keep hka
  repeat refine zz ?_
  refine W_cond rfl (fun hc1 => ?_) (fun hc1 => ?_)
  · simp at hc1
    have hin : i < nL := by omega
    obtain ⟨hA, u3, f3, hcell3, hu3, _⟩ := item_get hLa (i := (i : Int)) (by omega) (by omega)
    have hv3 := item_vals hit (i := (i : Int)) (by omega) (by omega)
    have o3 := hu3.oneCell
    repeat refine zz ?_
    refine o_alloc rfl rfl ?_
    intro bR wR halR
    have hbR0 := halR.blk
    repeat refine zz ?_
    refine o_storeS (b := bR) (off := 0) rfl rfl rfl rfl (by repeat (first | exact ones_nil | refine ones_cons (by first | rfl | assumption) ?_)) rfl hbR0 (by simp) ?_
    intro wS huS
    have hbR : Blk wS bR _ [.int .i64 (gi L (i : Int)).id, u3] := huS.blk
    have hkS := halR.kp.upd huS (Nat.le_of_eq halR.b_eq.symm)
    have hRe := halR.b_eq
    clear hbR0 huS halR
    replace hka := hka.keep hkS
    have hc3S := hc3.keep hka
    repeat refine zz ?_
    refine W_loop (S := Nat) (fun k => [(0, .pointer (some ⟨b0, 0, none⟩)), (1, .pointer (some ⟨b2, 0, none⟩)), (2, .pointer (some ⟨b3, 0, none⟩)), (3, .pointer (some ⟨b11, 0, none⟩)), (4, .pointer (some ⟨b4, 0, none⟩)), (14, .slice A nL cL), (15, .int .i64 (nL : Int)), (16, .int .i64 (i : Int)), (7, .pointer (some ⟨bR, 0, none⟩)), (20, .slice B nf cf_), (21, .int .i64 (nf : Int)), (22, .int .i64 (k : Int))]) (fun k w' => Keep wS w' ∧ k ≤ nf ∧ ∀ a, a < k → (decide (cnt L f n (i : Int) = f.length) && (fun k : Nat => decide (fval (gi f (k : Int)) (gi L (i : Int)) < fval (gi f (k : Int)) (gi (byF L (gi f (k : Int))) (n : Int)))) a) = false) (fun k => nf - k) 0 ⟨rfl, rfl, rfl, rfl, rfl, rfl, rfl, rfl, rfl, rfl, rfl, rfl, trivial⟩ ⟨Keep.refl _, Nat.zero_le _, fun a h => absurd h (by omega)⟩ ?_
    rintro k wb ⟨hkb, hk, hall2⟩
    have hkw := hka.keep hkb
    have hLb := hL.keep hkw
    have hfb := hf.keep hkw
    have hlsb := hls.keep hkw
    have hmb := hm.keep hkw
    have d0 := hc0.keep hkw
    have d2 := hc2.keep hkw
    have d3 := hc3.keep hkw
    have d11 := hc11.keep hkw
    have d4 := hc4.keep hkw
    have hbRb := hbR.keep hkb
    have hu3b := (hu3.keep hkS).keep hkb
    repeat refine zz ?_
    refine W_cond rfl (fun hc5 => ?_) (fun hc5 => ?_)
    · simp at hc5
      have hkf : k < nf := by omega
      have hfk := field_at hff (k := k) (by omega)
      obtain ⟨hB, hcf⟩ := hfb.getI (i := (k : Int)) (by omega) (by omega)
      obtain ⟨hC, u1, f1, hcl1, hu1, _⟩ := is_get hlsb (i := (k : Int)) (by omega) (by omega)
      rw [gi_map_byF (by omega)] at hu1
      obtain ⟨A1, n1, c1, rfl, hn1⟩ := hu1.split
      rw [byF_len] at hn1
      obtain ⟨hA1, u2, f2, hcell2, hu2, _⟩ := item_get hu1 (i := (n : Int)) (by omega) (by omega)
      have hv2 := isItem_len (byF_item (k := gi f (k : Int)) hit hnl)
      obtain ⟨A2, n2, c2, rfl, hn2⟩ := hu2.split
      obtain ⟨A3, n3, c3, rfl, hn3⟩ := hu3b.split
      obtain ⟨hA2, hc22⟩ := hu2.getI (i := gi f (k : Int)) (by omega) (by omega)
      obtain ⟨hA3, hc33⟩ := hu3b.getI (i := gi f (k : Int)) (by omega) (by omega)
      have e2 : gi (gi (byF L (gi f (k : Int))) (n : Int)).vals (gi f (k : Int)) = fval (gi f (k : Int)) (gi (byF L (gi f (k : Int))) (n : Int)) := rfl
      have e3 : gi (gi L (i : Int)).vals (gi f (k : Int)) = fval (gi f (k : Int)) (gi L (i : Int)) := rfl
      rw [e2] at hc22
      rw [e3] at hc33
      have hid := isItem_id (hit i (by omega))
      repeat refine zz ?_
      refine W_quiet (Keep wb) (by kernel_rfl) (by kernel_rfl) (Keep.drew _) ?_
      repeat refine qq ?_
      refine WQ_pure rfl rfl (fun w' hw' => o_lookup rfl rfl (hmb.keep hw') (wf_small hid.1 (by omega))) ?_
      rw [hms i (by omega)]
      repeat refine qq ?_
      refine WQ_part rfl rfl (fun hg => ?_) (fun hg => ?_)
      · simp only [decide_eq_true_eq] at hg
        have hyes : decide (cnt L f n (i : Int) = f.length) = true := decide_eq_true (by omega)
        repeat refine qq ?_
        intro wd hkd 
        repeat refine zz ?_
        refine W_cond rfl (fun hd => ?_) (fun hd => ?_)
        · repeat refine zz ?_
          refine ret1 rfl rfl ⟨?_, hkw.keep hkd⟩
          rw [hst, exB_t (k := i) (by omega) (by rw [hyes, exB_t (k := k) (by omega) hd]; rfl)]
        · repeat refine zz ?_
          exact ⟨k + 1, ⟨rfl, rfl, rfl, rfl, rfl, rfl, rfl, rfl, rfl, rfl, rfl, rfl, trivial⟩, ⟨hkb.keep hkd, by omega, all_no hall2 (by dsimp only; rw [hd, Bool.and_false])⟩, by omega⟩
      · simp only [decide_eq_false_iff_not] at hg
        have hno : decide (cnt L f n (i : Int) = f.length) = false := decide_eq_false (by omega)
        repeat refine qq ?_
        intro wd hkd 
        repeat refine zz ?_
        exact ⟨k + 1, ⟨rfl, rfl, rfl, rfl, rfl, rfl, rfl, rfl, rfl, rfl, rfl, rfl, trivial⟩, ⟨hkb.keep hkd, by omega, all_no hall2 (by rw [hno, Bool.false_and])⟩, by omega⟩
    · simp at hc5
      obtain rfl : k = nf := by omega
      have hfin : (decide (cnt L f n (i : Int) = f.length) && exB f.length fun k => decide (fval (gi f (k : Int)) (gi L (i : Int)) < fval (gi f (k : Int)) (gi (byF L (gi f (k : Int))) (n : Int)))) = false := by
        cases hx : decide (cnt L f n (i : Int) = f.length) with
        | false => rfl
        | true => rw [hx] at hall2; rw [exB_f (fun a ha => by have := hall2 a (by omega); rwa [Bool.true_and] at this)]; rfl
      repeat refine zz ?_
      exact ⟨i + 1, ⟨rfl, rfl, rfl, rfl, rfl, rfl, rfl, rfl, trivial⟩, ⟨hkw, by omega, all_no hall hfin⟩, by omega⟩
  · simp at hc1
    obtain rfl : i = nL := by omega
    repeat refine zz ?_
    refine ret1 rfl rfl ⟨?_, hka⟩
    rw [hst, exB_f (fun a ha => hall a (by omega))]
end Go.E

/-
  Contracts: sorted access, by the reference. Conditions: as stated.
-/
import Derived.Test.YtomkdoppjimhoaaT1
set_option linter.unusedVariables false
set_option linter.unusedSimpArgs false
namespace Go.E
open Go Go.RowKit Go.Proofs
theorem item_vals {L : List Itm} (hit : ∀ i : Nat, i < L.length → isItem (gi L (i : Int)) = true) {i : Int} (h0 : 0 ≤ i) (h1 : i < L.length) : (gi L i).vals.length = 3 := by
  have := isItem_len (hit i.toNat (by omega))
  rwa [show ((i.toNat : Nat) : Int) = i by omega] at this
theorem gi_map_ord {L : List Itm} {f : List Int} {k : Nat} (h : k < f.length) : gi (f.map (ordL L)) (k : Int) = ordL L (gi f (k : Int)) := gi_mapI h
attribute [local irreducible] W WL WD WE thenE inE retQ PureOp Keep Cell Cells Blk Sl Rows Own Src Fresh
attribute [local irreducible] ordL byF cnt cq

set_option maxHeartbeats 2000000 in
theorem l9Stop_ok {w : World} {v u vl vc : Value} {L : List Itm} {f cs : List Int} {fp gp hp kp : List Nat} {n : Nat} (hL : Sl itemR w v L fp) (hf : Sl intR w u f gp) (hls : Sl (slR intR) w vl (f.map (ordL L)) hp) (hc : Sl intR w vc cs kp)
    (hn : n < L.length) (hcl : cs.length = L.length) (hcs : ∀ i : Nat, i < L.length → gi cs (i : Int) = (cnt L f n (i : Int) : Int)) (hit : ∀ i : Nat, i < L.length → isItem (gi L (i : Int)) = true) (hff : isFieldList f = true) :
    Run Try.prog 79 [v, u, vl, .int .i64 (n : Int), vc] w (fun r w' => r = .bool (stp L f n) ∧ Keep w w') := by
  have hnL := hL.le
  have hnf := hf.le
  have hle : ∀ i : Nat, cnt L f n (i : Int) ≤ f.length := fun i => by unfold cnt; exact cq_le _ _ _ _ _ _
  obtain ⟨A, nL, cL, rfl, hlL⟩ := hL.split
  obtain ⟨B, nf, cf_, rfl, hlf⟩ := hf.split
  obtain ⟨C, nl, cl, rfl, hll⟩ := hls.split
  obtain ⟨D, nc, cc, rfl, hlc⟩ := hc.split
  rw [List.length_map] at hll
  have hdn : decide ((n : Int) < (nL : Int)) = true := decide_eq_true (by omega)
  have hst : stp L f n = exB L.length fun i => decide (cnt L f n (i : Int) = f.length) && exB f.length fun k => decide (fval (gi f (k : Int)) (gi L (i : Int)) < fval (gi f (k : Int)) (gi (byF L (gi f (k : Int))) (n : Int))) := rfl
  refine Run_intro Try.func79 (by unfold CallOk; kernel_rfl) rfl Try.ntmps79 (Nat.le_of_ble_eq_true rfl) ?_
  simp only [penv, Nat.reduceAdd, Nat.zero_add]
  repeat refine zz ?_
  refine W_loop (S := Nat) (fun i => [(0, .slice A nL cL), (1, .slice B nf cf_), (2, .slice C nl cl), (3, .int .i64 (n : Int)), (4, .slice D nc cc), (11, .int .i64 (i : Int))]) (fun i w' => Keep w w' ∧ i ≤ nL ∧ ∀ a, a < i → (fun i : Nat => decide (cnt L f n (i : Int) = f.length) && exB f.length fun k => decide (fval (gi f (k : Int)) (gi L (i : Int)) < fval (gi f (k : Int)) (gi (byF L (gi f (k : Int))) (n : Int)))) a = false) (fun i => nL - i) 0 ⟨rfl, rfl, rfl, rfl, rfl, rfl, trivial⟩ ⟨Keep.refl _, Nat.zero_le _, fun a h => absurd h (by omega)⟩ ?_
  rintro i wa ⟨hka, hi, hall⟩
  have hLa := hL.keep hka
  have hfa := hf.keep hka
  have hlsa := hls.keep hka
  have hca := hc.keep hka
  repeat refine zz ?_
  refine W_cond rfl (fun hc1 => ?_) (fun hc1 => ?_)
  · simp at hc1
    have hin : i < nL := by omega
    obtain ⟨hD, hcell⟩ := hca.getI (i := (i : Int)) (by omega) (by omega)
    rw [hcs i (by omega)] at hcell
    have hlei := hle i
    repeat refine zz ?_
    refine W_cond rfl (fun hc2 => ?_) (fun hc2 => ?_)
    · simp at hc2
      have hno : decide (cnt L f n (i : Int) = f.length) = false := decide_eq_false (by omega)
      repeat refine zz ?_
      exact ⟨i + 1, ⟨rfl, rfl, rfl, rfl, rfl, rfl, trivial⟩, ⟨hka, by omega, all_no hall (by rw [hno]; rfl)⟩, by omega⟩
    simp at hc2
    have hyes : decide (cnt L f n (i : Int) = f.length) = true := decide_eq_true (by omega)
    repeat refine zz ?_
    refine W_loop (S := Nat) (fun k => [(0, .slice A nL cL), (1, .slice B nf cf_), (2, .slice C nl cl), (3, .int .i64 (n : Int)), (4, .slice D nc cc), (11, .int .i64 (i : Int)), (12, .int .i64 (k : Int))]) (fun k w' => Keep w w' ∧ k ≤ nf ∧ ∀ a, a < k → (fun k : Nat => decide (fval (gi f (k : Int)) (gi L (i : Int)) < fval (gi f (k : Int)) (gi (byF L (gi f (k : Int))) (n : Int)))) a = false) (fun k => nf - k) 0 ⟨rfl, rfl, rfl, rfl, rfl, rfl, rfl, trivial⟩ ⟨hka, Nat.zero_le _, fun a h => absurd h (by omega)⟩ ?_
    clear hLa hfa hlsa hca hcell
    rintro k wb ⟨hkb, hk, hall2⟩
    have hLb := hL.keep hkb
    have hfb := hf.keep hkb
    have hlsb := hls.keep hkb
    repeat refine zz ?_
    refine W_cond rfl (fun hc3 => ?_) (fun hc3 => ?_)
    · simp at hc3
      have hkf : k < nf := by omega
      have hfk := field_at hff (k := k) (by omega)
      have hok := ord_at (L := L) (k := gi f (k : Int)) hn
      obtain ⟨hB, hcf⟩ := hfb.getI (i := (k : Int)) (by omega) (by omega)
      obtain ⟨hC, u1, f1, hcl1, hu1, _⟩ := slR_get hlsb (i := (k : Int)) (by omega) (by omega)
      rw [gi_map_ord (by omega)] at hu1
      obtain ⟨A1, n1, c1, rfl, hn1⟩ := hu1.split
      rw [ordL_len] at hn1
      obtain ⟨hA1, hc11⟩ := hu1.getI (i := (n : Int)) (by omega) (by omega)
      obtain ⟨hA, u2, f2, hcell2, hu2, _⟩ := item_get hLb (i := gi (ordL L (gi f (k : Int))) (n : Int)) (by omega) (by omega)
      obtain ⟨_, u3, f3, hcell3, hu3, _⟩ := item_get hLb (i := (i : Int)) (by omega) (by omega)
      have hv2 := item_vals hit (i := gi (ordL L (gi f (k : Int))) (n : Int)) (by omega) (by omega)
      have hv3 := item_vals hit (i := (i : Int)) (by omega) (by omega)
      obtain ⟨A2, n2, c2, rfl, hn2⟩ := hu2.split
      obtain ⟨A3, n3, c3, rfl, hn3⟩ := hu3.split
      obtain ⟨hA2, hc22⟩ := hu2.getI (i := gi f (k : Int)) (by omega) (by omega)
      obtain ⟨hA3, hc33⟩ := hu3.getI (i := gi f (k : Int)) (by omega) (by omega)
      have e2 : gi (gi L (gi (ordL L (gi f (k : Int))) (n : Int))).vals (gi f (k : Int)) = fval (gi f (k : Int)) (gi (byF L (gi f (k : Int))) (n : Int)) := by rw [byF_at hn]; rfl
      have e3 : gi (gi L (i : Int)).vals (gi f (k : Int)) = fval (gi f (k : Int)) (gi L (i : Int)) := rfl
      rw [e2] at hc22
      rw [e3] at hc33
      repeat refine zz ?_
      refine W_quiet (Keep wb) (by kernel_rfl) (by kernel_rfl) (Keep.drew _) ?_
      repeat refine qq ?_
      rw [hdn]
      repeat refine qq ?_
      intro wd hkd 
      repeat refine zz ?_
      refine W_cond rfl (fun hd => ?_) (fun hd => ?_)
      · repeat refine zz ?_
        refine ret1 rfl rfl ⟨?_, hkb.keep hkd⟩
        rw [hst, exB_t (k := i) (by omega) (by rw [hyes, exB_t (k := k) (by omega) hd]; rfl)]
      · repeat refine zz ?_
        exact ⟨k + 1, ⟨rfl, rfl, rfl, rfl, rfl, rfl, rfl, trivial⟩, ⟨hkb.keep hkd, by omega, all_no hall2 hd⟩, by omega⟩
    · simp at hc3
      obtain rfl : k = nf := by omega
      repeat refine zz ?_
      exact ⟨i + 1, ⟨rfl, rfl, rfl, rfl, rfl, rfl, trivial⟩, ⟨hkb, by omega, all_no hall (by rw [exB_f (fun a ha => hall2 a (by omega))]; simp)⟩, by omega⟩
  · simp at hc1
    obtain rfl : i = nL := by omega
    repeat refine zz ?_
    refine ret1 rfl rfl ⟨?_, hka⟩
    rw [hst, exB_f (fun a ha => hall a (by omega))]
end Go.E

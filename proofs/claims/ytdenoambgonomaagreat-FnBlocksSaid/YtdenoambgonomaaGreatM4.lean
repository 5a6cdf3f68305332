/-
  Contracts: merging two lists of ids, by the reference. Conditions: as stated.
-/
import Derived.Test.YtdenoambgonomaaGreatM1
import Derived.Test.YtdenoambgonomaaGreatX2
set_option linter.unusedVariables false
set_option linter.unusedSimpArgs false
namespace Go.E
open Go Go.RowKit Go.Proofs
def itId (L : List Itm) (id : Int) : Itm := gi L (findI L id)
def survN (L : List Itm) (e : List Nod) (o : List Int) (x : Itm) (n : Nat) : Bool := allB n fun k => decide (cmpE e (itId L (gi o (k : Int))) x ≠ 1)
def survB (L : List Itm) (e : List Nod) (o : List Int) (id : Int) : Bool := survN L e o (itId L id) o.length
def keepP (L : List Itm) (e : List Nod) (o xs : List Int) : List Int := xs.filter (survB L e o)
theorem keepP_step {L : List Itm} {e : List Nod} {o xs : List Int} {k : Nat} (h : k < xs.length) : keepP L e o (xs.take (k + 1)) = keepP L e o (xs.take k) ++ (if survB L e o (gi xs (k : Int)) then [gi xs (k : Int)] else []) := by
  unfold keepP
  rw [take_gi h, List.filter_append]
  congr 1
  by_cases hs : survB L e o (gi xs (k : Int)) = true
  · rw [if_pos hs]; simp [hs]
  · rw [if_neg hs]; simp [hs]
theorem keepP_len (L : List Itm) (e : List Nod) (o xs : List Int) : (keepP L e o xs).length ≤ xs.length := List.length_filter_le _ _
def mrgU (L : List Itm) (e : List Nod) (a b : List Int) : List Int := keepP L e b a ++ keepP L e a b
def mrg (L : List Itm) (e : List Nod) (a b : List Int) : List Int := sortP id (mrgU L e a b)
theorem mrgU_len (L : List Itm) (e : List Nod) (a b : List Int) : (mrgU L e a b).length ≤ a.length + b.length := by
  rw [mrgU, List.length_append]
  have := keepP_len L e b a; have := keepP_len L e a b; omega
theorem mrg_len (L : List Itm) (e : List Nod) (a b : List Int) : (mrg L e a b).length ≤ a.length + b.length := by
  rw [mrg, sortP_len]; exact mrgU_len L e a b
theorem known_at {L : List Itm} {a : List Int} (h : areKnown L a = true) {i : Nat} (hi : i < a.length) : 0 ≤ findI L (gi a (i : Int)) ∧ findI L (gi a (i : Int)) < L.length := by
  have := List.all_eq_true.1 h i (by simpa using hi)
  exact ⟨by simpa using this, findI_lt L _⟩
def mergeBest (L : List Itm) (e : List Nod) (a b : List Int) : List Int := if fine L e && areKnown L a && areKnown L b then mrg L e a b else []
theorem mergeBest_len (L : List Itm) (e : List Nod) (a b : List Int) : (mergeBest L e a b).length ≤ a.length + b.length := by
  unfold mergeBest
  split
  · exact mrg_len L e a b
  · simp
attribute [local irreducible] W WL WD WE thenE inE retQ PureOp Keep Cell Cells Blk Sl Rows Own Src Fresh
attribute [local irreducible] keepP

theorem l8Item_ok {w : World} {A : Option Addr} {n c : Nat} {L : List Itm} {fp : List Nat} {id : Int} {u : Value} (hx : Sl itemR w (.slice A n c) L fp) (h0 : 0 ≤ findI L id) (h1 : findI L id < n) (hA : A.isSome = true) (hcx : Cells w (ea A 2 (findI L id)) [.int .i64 (itId L id).id, u]) (hu : u.oneCell' = true) :
    Run Tryz.prog 119 [.slice A n c, .int .i64 id] w (fun r w' => r = .agg #[.int .i64 (itId L id).id, u] ∧ Keep w w') := by
  refine Run_intro Tryz.func119 (by unfold CallOk; kernel_rfl) rfl Tryz.ntmps119 (Nat.le_of_ble_eq_true rfl) ?_
  simp only [penv, Nat.reduceAdd, Nat.zero_add]
  repeat refine zz ?_
  refine o_alloc rfl rfl ?_
  intro b w1 hal
  have hb := hal.blk
  replace hx := hx.keep hal.kp
  replace hcx := hcx.keep hal.kp
  repeat refine zz ?_
  refine o_call rfl rfl rfl (spec_FindItem_ok hx) ?_
  rintro _ _ ⟨rfl, rfl⟩
  repeat refine zz ?_
  refine o_storeS (b := b) (off := 0) rfl rfl rfl rfl (by repeat (first | exact ones_nil | refine ones_cons (by first | rfl | assumption) ?_)) rfl hb (by simp) ?_
  intro w2 hu2
  have hb2 : Blk w2 b 67 [.int .i64 (itId L id).id, u] := hu2.blk
  repeat refine zz ?_
  exact retc rfl rfl hb2.cells rfl ⟨rfl, hal.kp.upd hu2 (by have := hal.b_eq; omega)⟩

set_option maxHeartbeats 2000000 in
theorem l8Merge_ok {w : World} {v u va vb : Value} {L : List Itm} {e : List Nod} {a b : List Int} {fp gp fa fb : List Nat} (hL : Sl itemR w v L fp) (he : Sl nodeR w u e gp) (ha : Sl intR w va a fa) (hb : Sl intR w vb b fb)
    (hex : isExpr e = true) (hit : ∀ i : Nat, i < L.length → isItem (gi L (i : Int)) = true) (hna : a.length ≤ 1048576) (hnb : b.length ≤ 1048576) (hka : areKnown L a = true) (hkb : areKnown L b = true) :
    Run Tryz.prog 78 [v, u, va, vb] w (fun r w' => Keep w w' ∧ ∃ fp, Sl intR w' r (mrg L e a b) fp ∧ Fresh w.heap.size w' fp) := by
  obtain ⟨A, n, c, rfl, hnx⟩ := hL.split
  obtain ⟨Aa, na, ca, rfl, hna'⟩ := ha.split
  obtain ⟨Ab, nb, cb, rfl, hnb'⟩ := hb.split
  have hitI : ∀ i : Int, 0 ≤ i → i < n → isItem (gi L i) = true := fun i h0 h1 => by
    have := hit i.toNat (by omega)
    rwa [show ((i.toNat : Nat) : Int) = i by omega] at this
  refine Run_intro Tryz.func78 (by unfold CallOk; kernel_rfl) rfl Tryz.ntmps78 (Nat.le_of_ble_eq_true rfl) ?_
  simp only [penv, Nat.reduceAdd, Nat.zero_add]
  repeat refine zz ?_
  refine o_buildSlice rfl rfl rfl rfl rfl (by intro p hp; cases hp) (by omega) ?_
  intro bO wO halO
  have hkO := halO.kp
  have hk0 := hkO
  have ho0 : OwnF intR wO w.heap.size 3 (.slice (some ⟨bO, 0, none⟩) 0 0) [] [] := OwnF.made halO.blk (by have := halO.b_eq; omega)
  repeat refine zz ?_
  refine W_loop (S := Nat × Value) (fun s => [(0, .slice A n c), (1, u), (2, .slice Aa na ca), (3, .slice Ab nb cb), (9, s.2), (10, .int .i64 (s.1 : Int))]) (fun s w' => Keep w w' ∧ s.1 ≤ na ∧ OwnF intR w' w.heap.size 3 s.2 (keepP L e b (a.take s.1)) []) (fun s => na - s.1) (0, _) ⟨rfl, rfl, rfl, rfl, rfl, rfl, trivial⟩ ⟨hk0, by omega, by simpa [keepP] using ho0⟩ ?_
  rintro ⟨i, vo⟩ wa ⟨hka1, hi, hoa⟩
  dsimp only at hi hoa ⊢
  have hll : (keepP L e b (a.take i)).length ≤ i := by have := keepP_len L e b (a.take i); rw [List.length_take] at this; omega
  repeat refine zz ?_
  refine W_cond rfl (fun hc => ?_) (fun hc => ?_)
  · have hin : i < na := by simp at hc; omega
    obtain ⟨hf0, hf1⟩ := known_at hka (i := i) (by omega)
    repeat refine zz ?_
    refine W_loop (S := Nat) (fun k => [(0, .slice A n c), (1, u), (2, .slice Aa na ca), (3, .slice Ab nb cb), (9, vo), (10, .int .i64 (i : Int)), (11, .bool (survN L e b (itId L (gi a (i : Int))) k)), (12, .int .i64 (k : Int))]) (fun k w' => Keep wa w' ∧ k ≤ nb) (fun k => nb - k) 0 ⟨rfl, rfl, rfl, rfl, rfl, rfl, rfl, rfl, trivial⟩ ⟨Keep.refl _, by omega⟩ ?_
    rintro k wb ⟨hkb1, hk⟩
    have hkc := hka1.keep hkb1
    have hLb := hL.keep hkc
    have heb := he.keep hkc
    have hab := ha.keep hkc
    have hbb := hb.keep hkc
    have hob := hoa.keep hkb1
    repeat refine zz ?_
    refine W_cond rfl (fun hcj => ?_) (fun hcj => ?_)
    · have hkl : k < nb := by simp at hcj; omega
      obtain ⟨hg0, hg1⟩ := known_at hkb (i := k) (by omega)
      obtain ⟨hAx, hcx⟩ := hab.getI (i := (i : Int)) (by omega) (by omega)
      obtain ⟨hAy, hcy⟩ := hbb.getI (i := (k : Int)) (by omega) (by omega)
      obtain ⟨hA, u1, f1, hcell1, hu1, _⟩ := item_get hLb (i := findI L (gi b (k : Int))) (by omega) (by omega)
      obtain ⟨_, u2, f2, hcell2, hu2, _⟩ := item_get hLb (i := findI L (gi a (i : Int))) (by omega) (by omega)
      have hsu : survN L e b (itId L (gi a (i : Int))) (k + 1) = (survN L e b (itId L (gi a (i : Int))) k && _) := allB_succ k fun j => decide (cmpE e (itId L (gi b (j : Int))) (itId L (gi a (i : Int))) ≠ 1)
      have ho1 := hu1.oneCell
      have ho2 := hu2.oneCell
      repeat refine zz ?_
      refine W_quiet (Keep wb) (by kernel_rfl) (by kernel_rfl) (Keep.drew _) ?_
      repeat refine qq ?_
      refine WQ_part rfl rfl (fun h => ?_) (fun h => ?_)
      · repeat refine qq ?_
        refine WQ_call rfl rfl rfl (fun w' hw' => (l8Item_ok (hLb.keep hw') hg0 (by omega) hA (hcell1.keep hw') ho1).kk hw') ?_
        repeat refine qq ?_
        refine WQ_call rfl rfl rfl (fun w' hw' => (l8Item_ok (hLb.keep hw') hf0 (by omega) hA (hcell2.keep hw') ho2).kk hw') ?_
        repeat refine qq ?_
        refine WQ_call rfl rfl rfl (fun w' hw' => (l5Compare_ok (x := itId L (gi b (k : Int))) (y := itId L (gi a (i : Int))) (heb.keep hw') (hu1.keep hw') (hu2.keep hw') hex (hitI _ hg0 (by omega)) (hitI _ hf0 (by omega))).kk hw') ?_
        repeat refine qq ?_
        intro wd hkd 
        repeat refine zz ?_
        exact ⟨k + 1, ⟨rfl, rfl, rfl, rfl, rfl, rfl, find_val rfl (by rw [hsu, h]; rfl), rfl, trivial⟩, ⟨hkb1.keep hkd, by omega⟩, by omega⟩
      · repeat refine qq ?_
        intro wd hkd 
        repeat refine zz ?_
        exact ⟨k + 1, ⟨rfl, rfl, rfl, rfl, rfl, rfl, find_val rfl (by rw [hsu, h]; rfl), rfl, trivial⟩, ⟨hkb1.keep hkd, by omega⟩, by omega⟩
    · simp at hcj
      obtain rfl : k = nb := by omega
      have hsv : survN L e b (itId L (gi a (i : Int))) k = survB L e b (gi a (i : Int)) := by rw [survB, hnb']
      rw [hsv]
      have hstep := keepP_step (L := L) (e := e) (o := b) (xs := a) (k := i) (by omega)
      have hzc := hkc.size_le
      obtain ⟨hAx, hcx⟩ := hab.getI (i := (i : Int)) (by omega) (by omega)
      repeat refine zz ?_
      refine W_cond rfl (fun hd => ?_) (fun hd => ?_)
      · repeat refine zz ?_
        refine o_buildSlice rfl rfl rfl rfl rfl (by simp [Value.cells]) (by omega) ?_
        intro b5 w5 hal5
        have hk5 := hkc.keep hal5.kp
        have ho5 := hob.keep hal5.kp
        have hz5 := hk5.size_le
        repeat refine zz ?_
        refine o_appendF (R := intR) (M := _) (gi := []) rfl rfl rfl rfl rfl (by decide) ho5 (Blk.src (xs := [gi a (i : Int)]) hal5.blk (Rows.ints _ _)) rfl (Fresh.nil _ _) (fun b hb => by simp at hb) (fun b hb => (ho5.lt hb).2) (fun b hb => by simp at hb) (by simp only [List.length_append, List.length_cons, List.length_nil]; omega) (by simp only [List.length_append, List.length_cons, List.length_nil]; omega) (by omega) ?_
        intro vN wN hoN hbN hgN
        have hkN : Keep w wN := hk5.grown hgN (fun b hb => (ho5.lt hb).1)
        repeat refine zz ?_
        rw [if_pos hd] at hstep
        refine ⟨(i + 1, vN), ⟨rfl, rfl, rfl, rfl, rfl, rfl, trivial⟩, ⟨hkN, by dsimp only; omega, ?_⟩, by dsimp only; omega⟩
        dsimp only
        rw [hstep]; simpa only [List.append_assoc, List.append_nil] using hoN
      · repeat refine zz ?_
        rw [if_neg (by simp [hd]), List.append_nil] at hstep
        refine ⟨(i + 1, vo), ⟨rfl, rfl, rfl, rfl, rfl, rfl, trivial⟩, ⟨hkc, by dsimp only; omega, ?_⟩, by dsimp only; omega⟩
        dsimp only
        rw [hstep]; exact hob
  simp at hc
  obtain rfl : na = i := by omega
  rw [hna', List.take_length] at hoa
  clear hk0 ho0
  have hk0 := hka1
  have ho0 := hoa
  clear hka1 hoa hll hi hc
  repeat refine zz ?_
  refine W_loop (S := Nat × Value) (fun s => [(0, .slice A n c), (1, u), (2, .slice Aa na ca), (3, .slice Ab nb cb), (9, s.2), (13, .int .i64 (s.1 : Int))]) (fun s w' => Keep w w' ∧ s.1 ≤ nb ∧ OwnF intR w' w.heap.size 3 s.2 (keepP L e b a ++ keepP L e a (b.take s.1)) []) (fun s => nb - s.1) (0, _) ⟨rfl, rfl, rfl, rfl, rfl, rfl, trivial⟩ ⟨hk0, by omega, by simpa [keepP] using ho0⟩ ?_
  rintro ⟨i, vo⟩ wa ⟨hka1, hi, hoa⟩
  dsimp only at hi hoa ⊢
  have hll : (keepP L e a (b.take i)).length ≤ i := by have := keepP_len L e a (b.take i); rw [List.length_take] at this; omega
  repeat refine zz ?_
  refine W_cond rfl (fun hc => ?_) (fun hc => ?_)
  · have hin : i < nb := by simp at hc; omega
    obtain ⟨hf0, hf1⟩ := known_at hkb (i := i) (by omega)
    repeat refine zz ?_
    refine W_loop (S := Nat) (fun k => [(0, .slice A n c), (1, u), (2, .slice Aa na ca), (3, .slice Ab nb cb), (9, vo), (13, .int .i64 (i : Int)), (14, .bool (survN L e a (itId L (gi b (i : Int))) k)), (15, .int .i64 (k : Int))]) (fun k w' => Keep wa w' ∧ k ≤ na) (fun k => na - k) 0 ⟨rfl, rfl, rfl, rfl, rfl, rfl, rfl, rfl, trivial⟩ ⟨Keep.refl _, by omega⟩ ?_
    rintro k wb ⟨hkb1, hk⟩
    have hkc := hka1.keep hkb1
    have hLb := hL.keep hkc
    have heb := he.keep hkc
    have hab := ha.keep hkc
    have hbb := hb.keep hkc
    have hob := hoa.keep hkb1
    repeat refine zz ?_
    refine W_cond rfl (fun hcj => ?_) (fun hcj => ?_)
    · have hkl : k < na := by simp at hcj; omega
      obtain ⟨hg0, hg1⟩ := known_at hka (i := k) (by omega)
      obtain ⟨hAx, hcx⟩ := hbb.getI (i := (i : Int)) (by omega) (by omega)
      obtain ⟨hAy, hcy⟩ := hab.getI (i := (k : Int)) (by omega) (by omega)
      obtain ⟨hA, u1, f1, hcell1, hu1, _⟩ := item_get hLb (i := findI L (gi a (k : Int))) (by omega) (by omega)
      obtain ⟨_, u2, f2, hcell2, hu2, _⟩ := item_get hLb (i := findI L (gi b (i : Int))) (by omega) (by omega)
      have hsu : survN L e a (itId L (gi b (i : Int))) (k + 1) = (survN L e a (itId L (gi b (i : Int))) k && _) := allB_succ k fun j => decide (cmpE e (itId L (gi a (j : Int))) (itId L (gi b (i : Int))) ≠ 1)
      have ho1 := hu1.oneCell
      have ho2 := hu2.oneCell
      repeat refine zz ?_
      refine W_quiet (Keep wb) (by kernel_rfl) (by kernel_rfl) (Keep.drew _) ?_
      repeat refine qq ?_
      refine WQ_part rfl rfl (fun h => ?_) (fun h => ?_)
      · repeat refine qq ?_
        refine WQ_call rfl rfl rfl (fun w' hw' => (l8Item_ok (hLb.keep hw') hg0 (by omega) hA (hcell1.keep hw') ho1).kk hw') ?_
        repeat refine qq ?_
        refine WQ_call rfl rfl rfl (fun w' hw' => (l8Item_ok (hLb.keep hw') hf0 (by omega) hA (hcell2.keep hw') ho2).kk hw') ?_
        repeat refine qq ?_
        refine WQ_call rfl rfl rfl (fun w' hw' => (l5Compare_ok (x := itId L (gi a (k : Int))) (y := itId L (gi b (i : Int))) (heb.keep hw') (hu1.keep hw') (hu2.keep hw') hex (hitI _ hg0 (by omega)) (hitI _ hf0 (by omega))).kk hw') ?_
        repeat refine qq ?_
        intro wd hkd 
        repeat refine zz ?_
        exact ⟨k + 1, ⟨rfl, rfl, rfl, rfl, rfl, rfl, find_val rfl (by rw [hsu, h]; rfl), rfl, trivial⟩, ⟨hkb1.keep hkd, by omega⟩, by omega⟩
      · repeat refine qq ?_
        intro wd hkd 
        repeat refine zz ?_
        exact ⟨k + 1, ⟨rfl, rfl, rfl, rfl, rfl, rfl, find_val rfl (by rw [hsu, h]; rfl), rfl, trivial⟩, ⟨hkb1.keep hkd, by omega⟩, by omega⟩
    · simp at hcj
      obtain rfl : k = na := by omega
      have hsv : survN L e a (itId L (gi b (i : Int))) k = survB L e a (gi b (i : Int)) := by rw [survB, hna']
      rw [hsv]
      have hstep := keepP_step (L := L) (e := e) (o := a) (xs := b) (k := i) (by omega)
      have hzc := hkc.size_le
      obtain ⟨hAx, hcx⟩ := hbb.getI (i := (i : Int)) (by omega) (by omega)
      repeat refine zz ?_
      refine W_cond rfl (fun hd => ?_) (fun hd => ?_)
      · repeat refine zz ?_
        refine o_buildSlice rfl rfl rfl rfl rfl (by simp [Value.cells]) (by omega) ?_
        intro b5 w5 hal5
        have hk5 := hkc.keep hal5.kp
        have ho5 := hob.keep hal5.kp
        have hz5 := hk5.size_le
        repeat refine zz ?_
        refine o_appendF (R := intR) (M := _) (gi := []) rfl rfl rfl rfl rfl (by decide) ho5 (Blk.src (xs := [gi b (i : Int)]) hal5.blk (Rows.ints _ _)) rfl (Fresh.nil _ _) (fun b hb => by simp at hb) (fun b hb => (ho5.lt hb).2) (fun b hb => by simp at hb) (by have := keepP_len L e b a; simp only [List.length_append, List.length_cons, List.length_nil]; omega) (by have := keepP_len L e b a; simp only [List.length_append, List.length_cons, List.length_nil]; omega) (by omega) ?_
        intro vN wN hoN hbN hgN
        have hkN : Keep w wN := hk5.grown hgN (fun b hb => (ho5.lt hb).1)
        repeat refine zz ?_
        rw [if_pos hd] at hstep
        refine ⟨(i + 1, vN), ⟨rfl, rfl, rfl, rfl, rfl, rfl, trivial⟩, ⟨hkN, by dsimp only; omega, ?_⟩, by dsimp only; omega⟩
        dsimp only
        rw [hstep]; simpa only [List.append_assoc, List.append_nil] using hoN
      · repeat refine zz ?_
        rw [if_neg (by simp [hd]), List.append_nil] at hstep
        refine ⟨(i + 1, vo), ⟨rfl, rfl, rfl, rfl, rfl, rfl, trivial⟩, ⟨hkc, by dsimp only; omega, ?_⟩, by dsimp only; omega⟩
        dsimp only
        rw [hstep]; exact hob
  simp at hc
  obtain rfl : nb = i := by omega
  rw [hnb', List.take_length] at hoa
  clear hk0 ho0
  have hk0 := hka1
  have ho0 := hoa
  clear hka1 hoa hll hi hc
  repeat refine zz ?_
  obtain ⟨fo, hso, hfo⟩ := ho0.sl (by decide)
  have hml := mrgU_len L e a b
  refine o_call rfl rfl rfl (l8Sort_ok (L := mrgU L e a b) hso (by omega)) ?_
  rintro vs ws ⟨hks, fs, hss, hfs⟩
  repeat refine zz ?_
  exact ret1 rfl rfl ⟨hk0.keep hks, fs, hss, hfs.mono hk0.size_le⟩

theorem spec_MergeBest_ok {w : World} {v u va vb : Value} {L : List Itm} {e : List Nod} {a b : List Int} {fp gp fa fb : List Nat} (hL : Sl itemR w v L fp) (he : Sl nodeR w u e gp) (ha : Sl intR w va a fa) (hb : Sl intR w vb b fb)
    (hn : e.length + totN e ≤ 1048576) (hna : a.length ≤ 1048576) (hnb : b.length ≤ 1048576) :
    Run Tryz.prog 26 [v, u, va, vb] w (fun r w' => Keep w w' ∧ ∃ fp, Sl intR w' r (mergeBest L e a b) fp ∧ Fresh w.heap.size w' fp) := by
  refine Run_intro Tryz.func26 (by unfold CallOk; kernel_rfl) rfl Tryz.ntmps26 (Nat.le_of_ble_eq_true rfl) ?_
  simp only [penv, Nat.reduceAdd, Nat.zero_add]
  repeat refine zz ?_
  refine o_call rfl rfl rfl (l7Fine_ok hL he hn) ?_
  rintro _ w1 ⟨rfl, hk1⟩
  replace hL := hL.keep hk1
  replace he := he.keep hk1
  replace ha := ha.keep hk1
  replace hb := hb.keep hk1
  repeat refine zz ?_
  refine WL_part rfl rfl (fun h1 => ?_) (fun h1 => ?_)
  · repeat refine zz ?_
    refine o_buildSlice rfl rfl rfl rfl rfl (by intro p hp; cases hp) (by omega) ?_
    intro bO wO halO
    have hkO := halO.kp
    have ho0 : OwnF intR wO w.heap.size 3 (.slice (some ⟨bO, 0, none⟩) 0 0) [] [] := OwnF.made halO.blk (by have := halO.b_eq; have := hk1.size_le; omega)
    obtain ⟨fp, hs, hf⟩ := ho0.sl (by decide)
    repeat refine zz ?_
    simp at h1
    exact ret1 rfl rfl ⟨hk1.keep hkO, fp, by rw [mergeBest, if_neg (by simp [h1])]; exact hs, hf⟩
  simp at h1
  obtain ⟨hit, hln, hex⟩ := fine_ok h1
  repeat refine zz ?_
  refine o_call rfl rfl rfl (l8Known_ok hL ha) ?_
  rintro _ _ ⟨rfl, rfl⟩
  repeat refine zz ?_
  refine WL_part rfl rfl (fun h2 => ?_) (fun h2 => ?_)
  · repeat refine zz ?_
    refine o_buildSlice rfl rfl rfl rfl rfl (by intro p hp; cases hp) (by omega) ?_
    intro bO wO halO
    have hkO := halO.kp
    have ho0 : OwnF intR wO w.heap.size 3 (.slice (some ⟨bO, 0, none⟩) 0 0) [] [] := OwnF.made halO.blk (by have := halO.b_eq; have := hk1.size_le; omega)
    obtain ⟨fp, hs, hf⟩ := ho0.sl (by decide)
    repeat refine zz ?_
    simp at h2
    exact ret1 rfl rfl ⟨hk1.keep hkO, fp, by rw [mergeBest, if_neg (by simp [h2])]; exact hs, hf⟩
  simp at h2
  repeat refine zz ?_
  refine o_call rfl rfl rfl (l8Known_ok hL hb) ?_
  rintro _ _ ⟨rfl, rfl⟩
  repeat refine zz ?_
  refine W_cond rfl (fun h3 => ?_) (fun h3 => ?_)
  · repeat refine zz ?_
    refine o_buildSlice rfl rfl rfl rfl rfl (by intro p hp; cases hp) (by omega) ?_
    intro bO wO halO
    have hkO := halO.kp
    have ho0 : OwnF intR wO w.heap.size 3 (.slice (some ⟨bO, 0, none⟩) 0 0) [] [] := OwnF.made halO.blk (by have := halO.b_eq; have := hk1.size_le; omega)
    obtain ⟨fp, hs, hf⟩ := ho0.sl (by decide)
    repeat refine zz ?_
    simp at h3
    exact ret1 rfl rfl ⟨hk1.keep hkO, fp, by rw [mergeBest, if_neg (by simp [h3])]; exact hs, hf⟩
  simp at h3
  repeat refine zz ?_
  refine o_call rfl rfl rfl (l8Merge_ok hL he ha hb hex hit hna hnb h2 h3) ?_
  rintro vr w2 ⟨hk2, fr, hsr, hfr⟩
  repeat refine zz ?_
  exact ret1 rfl rfl ⟨hk1.keep hk2, fr, by rw [mergeBest, if_pos (by simp [h1, h2, h3])]; exact hsr, hfr.mono hk1.size_le⟩
end Go.E

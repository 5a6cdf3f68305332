/-
  Several of my texts in one: T3 T4 T5. Conditions: as stated at each.
-/
import Derived.Test.YtnlleecmnjnphaaGreatGt
import Derived.Test.YtnlleecmnjnphaaGreatOx
import Derived.Test.YtnlleecmnjnphaaGreatCu
import Derived.Test.YtnlleecmnjnphaaGreatIm
set_option linter.unusedVariables false
set_option linter.unusedSimpArgs false
namespace Go.E
open Go Go.RowKit Go.Proofs
theorem cnt_next {L : List Itm} {f : List Int} {n : Nat} (i : Int) : cq L f n f.length i f.length = cnt L f (n + 1) i := by unfold cnt; exact cq_end i _ (Nat.le_refl _)
theorem cq_put {L : List Itm} {f cs : List Int} {n j p : Nat} (hn : n < L.length) (hj : j < f.length) (hp : gi (ordL L (gi f (j : Int))) (n : Int) = (p : Int)) (hcl : cs.length = L.length)
    (hcs : ∀ i : Nat, i < L.length → gi cs (i : Int) = (cq L f n j (i : Int) f.length : Int)) : ∀ i : Nat, i < L.length → gi (cs.set p (gi cs (p : Int) + 1)) (i : Int) = (cq L f n (j + 1) (i : Int) f.length : Int) := by
  intro i hi
  have hs := cq_step (L := L) (f := f) (n := n) (j := j) hn (i : Int) f.length
  rw [gi_lt (by rw [List.length_set]; omega), List.getElem_set]
  by_cases he : p = i
  · subst he
    rw [if_pos rfl, hs, if_pos ⟨hj, hp.symm⟩, hcs p hi]; omega
  · rw [if_neg he, hs, if_neg (fun e => he (by have := e.2; rw [hp] at this; omega)), ← gi_lt (by omega), hcs i hi]; omega
theorem map_set_int {cs : List Int} {p : Nat} {v : Int} : (cs.map (Value.int .i64)).set p (.int .i64 v) = (cs.set p v).map (Value.int .i64) := by rw [List.map_set]
theorem blk_int {w : World} {b : Nat} {t : TypeId} {cs : List Int} (h : Blk w b t (cs.map (Value.int .i64))) {n c : Nat} (hn : n = cs.length) (hlc : n ≤ c) (hcm : c ≤ 9223372036854775807 := by omega) : Sl intR w (.slice (some ⟨b, 0, none⟩) n c) cs [b] :=
  Sl.ofInts h (fun i hi => by rw [List.getElem?_map, List.getElem?_eq_getElem hi, gi_lt hi]; rfl) hn hlc hcm
theorem zeros_int : ∀ {zs : List Value}, (∀ u, u ∈ zs → u ∈ [Value.int .i64 0]) → zs = (List.replicate zs.length (0 : Int)).map (Value.int .i64)
  | [], _ => rfl
  | z :: r, h => by
    have h1 := h z (by simp)
    rw [List.mem_singleton] at h1
    rw [List.length_cons, List.replicate_succ, List.map_cons, ← zeros_int (zs := r) fun u hu => h u (List.mem_cons_of_mem _ hu), h1]
theorem seen_item {L : List Itm} {p : Nat → Bool} (hit : ∀ i : Nat, i < L.length → isItem (gi L (i : Int)) = true) {n : Nat} (hn : n ≤ L.length) : ∀ i : Nat, i < (pickI L p n).length → isItem (gi (pickI L p n) (i : Int)) = true := fun i hi => by
  obtain ⟨j, h1, _, h3⟩ := (pickI_mem n).1 (gi_mem hi)
  rw [h3]; exact hit j (by omega)
attribute [local irreducible] W WL WD WE thenE inE retQ PureOp Keep Cell Cells Blk Sl Rows Own Src Fresh
attribute [local irreducible] ordL byF cnt cq seenI endN stp lowE bestL isFieldList areItems endF

set_option maxHeartbeats 4000000 in
theorem spec_SortedBest_ok {w : World} {v u : Value} {L : List Itm} {f : List Int} {fp gp : List Nat} (hL : Sl itemR w v L fp) (hf : Sl intR w u f gp) :
    Run Tryz.prog 7 [v, u] w (fun r w' => Keep w w' ∧ ∃ x h, r = .tuple #[x, .int .i64 (sortedBest L f).2] ∧ Sl intR w' x (sortedBest L f).1 h ∧ Fresh w.heap.size w' h) := by
  have hnL := hL.le
  have hnf := hf.le
  obtain ⟨A, nL, cL, rfl, hlL⟩ := hL.split
  obtain ⟨B, nf, cf_, rfl, hlf⟩ := hf.split
  have hL0 := hL
  have hf0 := hf
  refine Run_intro Tryz.func7 (by unfold CallOk; kernel_rfl) rfl Tryz.ntmps7 (Nat.le_of_ble_eq_true rfl) ?_
  simp only [penv, Nat.reduceAdd, Nat.zero_add]
  repeat refine zz ?_
  refine o_call rfl rfl rfl (spec_AreItems_ok hL) ?_
  rintro _ w1 ⟨rfl, hk⟩
  replace hL := hL.keep hk
  replace hf := hf.keep hk
  repeat refine zz ?_
  refine WL_part rfl rfl (fun h1 => ?_) (fun h1 => ?_)
  · simp at h1
    have hsb : sortedBest L f = ([], 0) := by unfold sortedBest; rw [h1]; rfl
    repeat refine zz ?_
    refine o_buildSlice rfl rfl rfl rfl rfl (by intro p hp; cases hp) (by omega) ?_
    intro bO wO halO
    have hkO := halO.kp
    have ho : OwnF intR wO w.heap.size 3 (.slice (some ⟨bO, 0, none⟩) 0 0) [] [] := OwnF.made halO.blk (by have := halO.b_eq; have := hk.size_le; omega)
    obtain ⟨fO, hsO, hfO⟩ := ho.sl (by decide)
    repeat refine zz ?_
    exact ret2 rfl rfl rfl ⟨hk.keep hkO, _, fO, by rw [hsb], by rw [hsb]; exact hsO, hfO⟩
  simp at h1
  repeat refine zz ?_
  refine o_call rfl rfl rfl (spec_IsFieldList_ok hf) ?_
  rintro _ w2 ⟨rfl, k2⟩
  replace hL := hL.keep k2
  replace hf := hf.keep k2
  replace hk := hk.keep k2
  repeat refine zz ?_
  refine W_cond rfl (fun h2 => ?_) (fun h2 => ?_)
  · simp at h2
    have hsb : sortedBest L f = ([], 0) := by unfold sortedBest; rw [h2, Bool.and_false]; rfl
    repeat refine zz ?_
    refine o_buildSlice rfl rfl rfl rfl rfl (by intro p hp; cases hp) (by omega) ?_
    intro bO wO halO
    have hkO := halO.kp
    have ho : OwnF intR wO w.heap.size 3 (.slice (some ⟨bO, 0, none⟩) 0 0) [] [] := OwnF.made halO.blk (by have := halO.b_eq; have := hk.size_le; omega)
    obtain ⟨fO, hsO, hfO⟩ := ho.sl (by decide)
    repeat refine zz ?_
    exact ret2 rfl rfl rfl ⟨hk.keep hkO, _, fO, by rw [hsb], by rw [hsb]; exact hsO, hfO⟩
  simp at h2
  have hsb : sortedBest L f = (bestL (seenI L f) (lowE f), (endN L f : Int) * f.length) := by unfold sortedBest; rw [h1, h2]; rfl
  rw [hsb]
  dsimp only
  have hf3 := fieldList_len h2
  obtain ⟨hit, hl16⟩ := areItems_at h1
  have hv3 : ∀ i, i < L.length → (gi L (i : Int)).vals.length = 3 := fun i hi => isItem_len (hit i hi)
  repeat refine zz ?_
  refine o_buildSlice rfl rfl rfl rfl rfl (by intro p hp; cases hp) (by omega) ?_
  intro bO wO halO
  have hkO := halO.kp
  have zO := halO.b_eq
  have sO := halO.size
  have s1 := hk.size_le
  have ho1 : OwnF (slR intR) wO w.heap.size 25 (.slice (some ⟨bO, 0, none⟩) 0 0) [] [] := OwnF.made halO.blk (by omega)
  replace hk := hk.keep hkO
  repeat refine zz ?_
  refine W_loop (S := Nat × Value) (fun s => [(0, .slice A nL cL), (1, .slice B nf cf_), (6, s.2), (7, .int .i64 (s.1 : Int))]) (fun s w' => Keep w w' ∧ s.1 ≤ nf ∧ ∃ fi, OwnF (slR intR) w' w.heap.size 25 s.2 ((f.map (ordL L)).take s.1) fi) (fun s => nf - s.1) (0, _) ⟨rfl, rfl, rfl, rfl, trivial⟩ ⟨hk, Nat.zero_le _, [], by simpa using ho1⟩ ?_
  clear ho1 hkO halO
  rintro ⟨k, va⟩ wa ⟨hka, hk, fi, hoa⟩
  dsimp only at hk hoa ⊢
  have hLa := hL0.keep hka
  have hfa := hf0.keep hka
  have hza := hka.size_le
  repeat refine zz ?_
  refine W_cond rfl (fun hc => ?_) (fun hc => ?_)
  · simp at hc
    have hkf : k < nf := by omega
    have hfk := field_at h2 (k := k) (by omega)
    obtain ⟨hB, hcf⟩ := hfa.getI (i := (k : Int)) (by omega) (by omega)
    have hlk : ((f.map (ordL L)).take k).length ≤ 3 := by rw [List.length_take, List.length_map]; omega
    repeat refine zz ?_
    refine o_call rfl rfl rfl (l9Order_ok hLa hl16 hv3 hfk) ?_
    rintro vo wo ⟨ko, fo, hso, hfo⟩
    have eo : sortP (fun i => fval (gi f (k : Int)) (gi L i)) (iota 0 L.length) = ordL L (gi f (k : Int)) := by unfold ordL; rfl
    rw [eo] at hso
    have hdm := hoa.fresh.dom
    have hown := fun c hc => (hoa.lt (b := c) hc).2
    have hrow := fun c hc => (hoa.lt (b := c) hc).1
    replace hka := hka.keep ko
    replace hoa := hoa.keep ko
    have oo := hso.oneCell
    obtain ⟨Ao, no, co, rfl, hno⟩ := hso.split
    repeat refine zz ?_
    refine o_buildSlice rfl rfl rfl rfl rfl (by simp [Value.cells]) (by omega) ?_
    intro b8 w8 hal8
    have hb8 : Blk w8 b8 25 [.slice Ao no co] := by simpa [Value.cells] using hal8.blk
    replace hka := hka.keep hal8.kp
    replace hoa := hoa.keep hal8.kp
    replace hso := hso.keep hal8.kp
    replace hfo := hfo.keep hal8.kp
    have z8 := hka.size_le
    repeat refine zz ?_
    refine o_appendF (R := slR intR) (M := wa.heap.size) (gi := fo) rfl rfl rfl rfl rfl (by decide) hoa (Blk.src (xs := [ordL L (gi f (k : Int))]) hb8 (Rows.single (R := slR intR) ⟨_, rfl, hso⟩)) rfl (hfo.mono hza) hdm hown (fun b hb => hfo.ge hb) (by simp only [List.length_cons, List.length_nil]; omega) (by simp only [List.length_cons, List.length_nil]; omega) (by omega) ?_
    intro v9 w9 ho9 hb9 hg9
    replace hka := hka.grown hg9 hrow
    repeat refine zz ?_
    exact ⟨(k + 1, v9), ⟨rfl, rfl, rfl, rfl, trivial⟩, ⟨hka, by dsimp only; omega, _, by dsimp only; rw [take_gi (by rw [List.length_map]; omega), gi_map_ord (by omega)]; exact ho9⟩, by dsimp only; omega⟩
  · simp at hc
    have hkn : k = nf := by omega
    have etk : (f.map (ordL L)).take k = f.map (ordL L) := List.take_of_length_le (by rw [List.length_map]; omega)
    rw [etk] at hoa
    obtain ⟨fl, hls, hfl⟩ := hoa.sl (by decide)
    have hdl := hls.dom
    obtain ⟨Al, nl, cl, rfl, hll⟩ := hls.split
    rw [List.length_map] at hll
    clear hoa etk hLa hfa
    repeat refine zz ?_
    refine o_makeSlice (l := nL) (c := nL) rfl rfl rfl rfl (Nat.le_refl _) (by omega) (by omega) ?_
    intro bC wC zs halC hzl hz0
    have hbC := halC.blk
    have eC := halC.b_eq
    have sC := halC.size
    replace hka := hka.keep halC.kp
    replace hls := hls.keep halC.kp
    have hwC : w.heap.size ≤ bC := by omega
    have hbl : bC ∉ fl := fun hm => by have := hdl _ hm; omega
    rw [zeros_int hz0, hzl, Nat.mul_one] at hbC
    repeat refine zz ?_
    refine W_cut [(0, .slice A nL cL), (1, .slice B nf cf_), (8, .slice (some ⟨bC, 0, none⟩) nL nL), (9, .int .i64 (endN L f : Int))] (fun w' => Keep w w' ∧ ∃ cs : List Int, Blk w' bC 3 (cs.map (Value.int .i64)) ∧ cs.length = nL ∧ ∀ i : Nat, i < nL → gi cs (i : Int) = (cnt L f (endN L f) (i : Int) : Int)) ?_ ?_
    · rintro wd ⟨hkd, cs, hbd, hcl, hcs⟩
      clear hka hls hbC
      generalize hE : endN L f = e at *
      have heL : e ≤ L.length := by rw [← hE]; unfold endN; exact endF_le _ _ _
      have hseen : seenI L f = pickI L (fun i => decide (0 < cnt L f e (i : Int))) L.length := by rw [← hE]; unfold seenI; rfl
      repeat refine zz ?_
      refine o_buildSlice rfl rfl rfl rfl rfl (by intro p hp; cases hp) (by omega) ?_
      intro bO wO halO
      have hkO := halO.kp
      have zO := halO.b_eq
      have sO := halO.size
      have sd := hkd.size_le
      have ho1 : OwnX itemR wO (bC + 1) 45 (.slice (some ⟨bO, 0, none⟩) 0 0) [] := OwnX.made halO.blk (by have := hbd.lt; omega)
      have hbO := hbd.keep hkO
      replace hkd := hkd.keep hkO
      repeat refine zz ?_
      refine W_loop (S := Nat × Value) (fun s => [(0, .slice A nL cL), (1, .slice B nf cf_), (8, .slice (some ⟨bC, 0, none⟩) nL nL), (9, .int .i64 (e : Int)), (11, s.2), (12, .int .i64 (s.1 : Int))]) (fun s w' => Keep w w' ∧ s.1 ≤ nL ∧ Blk w' bC 3 (cs.map (Value.int .i64)) ∧ OwnX itemR w' (bC + 1) 45 s.2 (pickI L (fun i => decide (0 < cnt L f e (i : Int))) s.1)) (fun s => nL - s.1) (0, _) ⟨rfl, rfl, rfl, rfl, rfl, rfl, trivial⟩ ⟨hkd, Nat.zero_le _, hbO, ho1⟩ ?_
      clear ho1 hkO halO hbO hbd hkd
      rintro ⟨i, va⟩ wa ⟨hka, hi, hba, hoa⟩
      dsimp only at hi hoa ⊢
      have hLa := hL0.keep hka
      have hfa := hf0.keep hka
      have hza := hka.size_le
      have hsc := blk_int hba (n := nL) (c := nL) (by omega) (Nat.le_refl _)
      have hpl := pickI_len L (fun i => decide (0 < cnt L f e (i : Int))) i
      repeat refine zz ?_
      refine W_cond rfl (fun hc5 => ?_) (fun hc5 => ?_)
      · simp at hc5
        have hin : i < nL := by omega
        obtain ⟨hA, hce⟩ := hsc.getI (i := (i : Int)) (by omega) (by omega)
        rw [hcs i hin] at hce
        repeat refine zz ?_
        refine W_cond rfl (fun hc6 => ?_) (fun hc6 => ?_)
        · simp at hc6
          obtain ⟨hAi, u1, f1, hcell1, hu1, hsub1⟩ := item_get hLa (i := (i : Int)) (by omega) (by omega)
          have o1 := hu1.oneCell
          have hd1 := hL0.dom
          have hrow := fun c hc => (hoa.lt (b := c) hc)
          obtain ⟨A1, n1, c1, rfl, hn1⟩ := hu1.split
          repeat refine zz ?_
          refine o_buildSlice rfl rfl rfl rfl rfl (by simp [Value.cells]) (by omega) ?_
          intro b8 w8 hal8
          have hb8 : Blk w8 b8 45 [.int .i64 (gi L (i : Int)).id, .slice A1 n1 c1] := by simpa [Value.cells] using hal8.blk
          replace hka := hka.keep hal8.kp
          replace hoa := hoa.keep hal8.kp
          replace hu1 := hu1.keep hal8.kp
          replace hba := hba.keep hal8.kp
          have z8 := hka.size_le
          have hdw := hu1.dom
          have sz8 := hal8.size
          have hbl8 := hba.lt
          repeat refine zz ?_
          refine o_appX (R := itemR) (gi := f1) rfl rfl rfl rfl rfl (by decide) hoa (Blk.src (xs := [gi L (i : Int)]) hb8 (Rows.single (R := itemR) ⟨_, rfl, hu1⟩)) rfl hdw (fun c hc hm => by have := hd1 c (hsub1 c hm); have := (hrow c hc).1; omega) (by simp only [List.length_cons, List.length_nil]; omega) (by simp only [List.length_cons, List.length_nil]; omega) (by omega) ?_
          intro v9 w9 ho9 hg9 _
          have hba9 := hba.grown hg9 (fun e => by have := (hrow _ e.symm).1; have := hrow _ e.symm; omega)
          replace hka := hka.grown hg9 (fun c hc => by have := (hrow c hc).1; omega)
          repeat refine zz ?_
          exact ⟨(i + 1, v9), ⟨rfl, rfl, rfl, rfl, rfl, rfl, trivial⟩, ⟨hka, by dsimp only; omega, hba9, by dsimp only; rw [pickI_t (by simpa using hc6)]; exact ho9⟩, by dsimp only; omega⟩
        · simp at hc6
          repeat refine zz ?_
          exact ⟨(i + 1, va), ⟨rfl, rfl, rfl, rfl, rfl, rfl, trivial⟩, ⟨hka, by dsimp only; omega, hba, by dsimp only; rw [pickI_f (by simpa using hc6)]; exact hoa⟩, by dsimp only; omega⟩
      · simp at hc5
        have hin : i = L.length := by omega
        rw [hin, ← hseen] at hoa
        rw [hin, ← hseen] at hpl
        obtain ⟨fs, hss⟩ := hoa.sl (by decide)
        have hits := seen_item (p := fun i => decide (0 < cnt L f e (i : Int))) hit (Nat.le_refl L.length)
        rw [← hseen] at hits
        repeat refine zz ?_
        refine o_call rfl rfl rfl (spec_LowExpression_ok hfa) ?_
        rintro _ wb ⟨kb, ve, fe, rfl, hle, _⟩
        replace hss := hss.keep kb
        replace hka := hka.keep kb
        repeat refine zz ?_
        refine o_call rfl rfl rfl (l7Best_ok hss hle (lowE_expr h2) hits (by omega)) ?_
        rintro vr wr ⟨kr, fr, hsr, hfr⟩
        have hm : (e : Int) * (f.length : Int) ≤ 16 * 3 := Int.mul_le_mul (by omega) (by omega) (by omega) (by omega)
        have hm0 : 0 ≤ (e : Int) * (f.length : Int) := Int.mul_nonneg (by omega) (by omega)
        have hzr := hka.size_le
        rw [← hlf] at hm hm0
        rw [← hlf]
        repeat refine zz ?_
        refine WL_pure rfl rfl (o_mul rfl rfl (by omega)) ?_
        repeat refine zz ?_
        exact ret2 rfl rfl rfl ⟨hka.keep kr, _, fr, rfl, hsr, hfr.mono (by omega)⟩
    · refine W_loop (S := Nat × List Int) (fun s => [(0, .slice A nL cL), (1, .slice B nf cf_), (6, .slice Al nl cl), (8, .slice (some ⟨bC, 0, none⟩) nL nL), (9, .int .i64 (s.1 : Int))]) (fun s w' => Keep w w' ∧ s.1 ≤ nL ∧ Sl (slR intR) w' (.slice Al nl cl) (f.map (ordL L)) fl ∧ Blk w' bC 3 (s.2.map (Value.int .i64)) ∧ s.2.length = nL ∧ (∀ i : Nat, i < nL → gi s.2 (i : Int) = (cnt L f s.1 (i : Int) : Int)) ∧ endF L f (L.length - s.1) = endN L f) (fun s => nL - s.1) (0, List.replicate nL 0) ⟨rfl, rfl, rfl, rfl, rfl, trivial⟩ ⟨hka, Nat.zero_le _, hls, hbC, by simp, fun i hi => by rw [gi_lt (by simpa using hi)]; unfold cnt; rw [cq_zero]; simp, by unfold endN; rfl⟩ ?_
      clear hka hls hbC
      rintro ⟨n, cs⟩ wb ⟨hkb, hn, hlb, hbb, hcl, hcs, hend⟩
      dsimp only at hn hlb hbb hcl hcs hend ⊢
      have hLb := hL0.keep hkb
      have hfb := hf0.keep hkb
      have hsc := blk_int hbb (n := nL) (c := nL) (by omega) (Nat.le_refl _)
      repeat refine zz ?_
      refine WL_part rfl rfl (fun hq => ?_) (fun hq => ?_)
      · simp at hq
        have hnl : n < nL := by omega
        repeat refine zz ?_
        refine o_call rfl rfl rfl (l9Stop_ok hLb hfb hlb hsc (by omega) (by omega) (fun i hi => hcs i (by omega)) hit h2) ?_
        rintro _ wc ⟨rfl, kc⟩
        replace hkb := hkb.keep kc
        replace hlb := hlb.keep kc
        replace hbb := hbb.keep kc
        cases hst : stp L f n with
        | true =>
          have he : endN L f = n := by rw [← hend]; exact endF_stop (by omega) hst
          repeat refine zz ?_
          exact ⟨⟨rfl, rfl, rfl, by rw [he]; rfl, trivial⟩, hkb, cs, hbb, hcl, by rw [he]; exact hcs⟩
        | false =>
          have hgo := endF_go (by omega : n < L.length) hst
          repeat refine zz ?_
          refine W_loop (S := Nat × List Int) (fun s => [(0, .slice A nL cL), (1, .slice B nf cf_), (6, .slice Al nl cl), (8, .slice (some ⟨bC, 0, none⟩) nL nL), (9, .int .i64 (n : Int)), (10, .int .i64 (s.1 : Int))]) (fun s w' => Keep w w' ∧ s.1 ≤ nf ∧ Sl (slR intR) w' (.slice Al nl cl) (f.map (ordL L)) fl ∧ Blk w' bC 3 (s.2.map (Value.int .i64)) ∧ s.2.length = nL ∧ (∀ i : Nat, i < nL → gi s.2 (i : Int) = (cq L f n s.1 (i : Int) f.length : Int))) (fun s => nf - s.1) (0, cs) ⟨rfl, rfl, rfl, rfl, rfl, rfl, trivial⟩ ⟨hkb, Nat.zero_le _, hlb, hbb, hcl, fun i hi => by have := hcs i hi; unfold cnt at this; exact this⟩ ?_
          clear hkb hlb hbb hcl hcs hsc hLb hfb kc
          rintro ⟨j, ds⟩ we ⟨hke, hj, hle, hbe, hdl', hds⟩
          dsimp only at hj hle hbe hdl' hds ⊢
          repeat refine zz ?_
          refine W_cond rfl (fun hc4 => ?_) (fun hc4 => ?_)
          · simp at hc4
            have hjf : j < nf := by omega
            obtain ⟨hA1, u1, f1, hcl1, hu1, _⟩ := slR_get hle (i := (j : Int)) (by omega) (by omega)
            rw [gi_map_ord (by omega)] at hu1
            obtain ⟨A1, n1, c1, rfl, hn1⟩ := hu1.split
            rw [ordL_len] at hn1
            obtain ⟨hA11, hc11⟩ := hu1.getI (i := (n : Int)) (by omega) (by omega)
            have hok := ord_at (L := L) (k := gi f (j : Int)) (n := n) (by omega)
            obtain ⟨p, hp⟩ : ∃ p : Nat, gi (ordL L (gi f (j : Int))) (n : Int) = (p : Int) := ⟨(gi (ordL L (gi f (j : Int))) (n : Int)).toNat, by omega⟩
            rw [hp] at hc11
            have hse := blk_int hbe (n := nL) (c := nL) (by omega) (Nat.le_refl _)
            obtain ⟨hAe, hce⟩ := hse.getI (i := (p : Int)) (by omega) (by omega)
            have hbd := hds p (by omega)
            have hcb := cq_le L f n j (p : Int) f.length
            repeat refine zz ?_
            have hS : Keep we (World.drew we) := Keep.drew we
            refine W_late (Keep we) [20] (by kernel_rfl) (Keep.drew we) ?_
            first|refine e_o 0 ?_|refine e_a 0 ?_|refine e_s 0 ?_|refine e_n 0 ?_|refine e_i 0 ?_|refine e_f 0 ?_|refine e_b 0 ?_|refine e_d 0 ?_|refine e_l1 0 ?_|refine e_l2 0 ?_|refine e_l3 0 ?_|refine e_l4 0 ?_|refine e_l5 0 ?_|refine e_l6 0 ?_|refine e_l7 0 ?_|refine e_l8 0 ?_|refine e_l9 0 ?_|refine e_g 0 ?_|refine e_q 0 ?_|refine e_e 0 ?_|refine e_j 0 ?_
            first|refine e_o 1 ?_|refine e_a 1 ?_|refine e_s 1 ?_|refine e_n 1 ?_|refine e_i 1 ?_|refine e_f 1 ?_|refine e_b 1 ?_|refine e_d 1 ?_|refine e_l1 1 ?_|refine e_l2 1 ?_|refine e_l3 1 ?_|refine e_l4 1 ?_|refine e_l5 1 ?_|refine e_l6 1 ?_|refine e_l7 1 ?_|refine e_l8 1 ?_|refine e_l9 1 ?_|refine e_g 1 ?_|refine e_q 1 ?_|refine e_e 1 ?_|refine e_j 1 ?_
            first|refine e_o 2 ?_|refine e_a 2 ?_|refine e_s 2 ?_|refine e_n 2 ?_|refine e_i 2 ?_|refine e_f 2 ?_|refine e_b 2 ?_|refine e_d 2 ?_|refine e_l1 2 ?_|refine e_l2 2 ?_|refine e_l3 2 ?_|refine e_l4 2 ?_|refine e_l5 2 ?_|refine e_l6 2 ?_|refine e_l7 2 ?_|refine e_l8 2 ?_|refine e_l9 2 ?_|refine e_g 2 ?_|refine e_q 2 ?_|refine e_e 2 ?_|refine e_j 2 ?_
            first|refine e_o 3 ?_|refine e_a 3 ?_|refine e_s 3 ?_|refine e_n 3 ?_|refine e_i 3 ?_|refine e_f 3 ?_|refine e_b 3 ?_|refine e_d 3 ?_|refine e_l1 3 ?_|refine e_l2 3 ?_|refine e_l3 3 ?_|refine e_l4 3 ?_|refine e_l5 3 ?_|refine e_l6 3 ?_|refine e_l7 3 ?_|refine e_l8 3 ?_|refine e_l9 3 ?_|refine e_g 3 ?_|refine e_q 3 ?_|refine e_e 3 ?_|refine e_j 3 ?_
            first|refine e_o 4 ?_|refine e_a 4 ?_|refine e_s 4 ?_|refine e_n 4 ?_|refine e_i 4 ?_|refine e_f 4 ?_|refine e_b 4 ?_|refine e_d 4 ?_|refine e_l1 4 ?_|refine e_l2 4 ?_|refine e_l3 4 ?_|refine e_l4 4 ?_|refine e_l5 4 ?_|refine e_l6 4 ?_|refine e_l7 4 ?_|refine e_l8 4 ?_|refine e_l9 4 ?_|refine e_g 4 ?_|refine e_q 4 ?_|refine e_e 4 ?_|refine e_j 4 ?_
            first|refine e_o 5 ?_|refine e_a 5 ?_|refine e_s 5 ?_|refine e_n 5 ?_|refine e_i 5 ?_|refine e_f 5 ?_|refine e_b 5 ?_|refine e_d 5 ?_|refine e_l1 5 ?_|refine e_l2 5 ?_|refine e_l3 5 ?_|refine e_l4 5 ?_|refine e_l5 5 ?_|refine e_l6 5 ?_|refine e_l7 5 ?_|refine e_l8 5 ?_|refine e_l9 5 ?_|refine e_g 5 ?_|refine e_q 5 ?_|refine e_e 5 ?_|refine e_j 5 ?_
            first|refine e_o 6 ?_|refine e_a 6 ?_|refine e_s 6 ?_|refine e_n 6 ?_|refine e_i 6 ?_|refine e_f 6 ?_|refine e_b 6 ?_|refine e_d 6 ?_|refine e_l1 6 ?_|refine e_l2 6 ?_|refine e_l3 6 ?_|refine e_l4 6 ?_|refine e_l5 6 ?_|refine e_l6 6 ?_|refine e_l7 6 ?_|refine e_l8 6 ?_|refine e_l9 6 ?_|refine e_g 6 ?_|refine e_q 6 ?_|refine e_e 6 ?_|refine e_j 6 ?_
            first|refine e_o 7 ?_|refine e_a 7 ?_|refine e_s 7 ?_|refine e_n 7 ?_|refine e_i 7 ?_|refine e_f 7 ?_|refine e_b 7 ?_|refine e_d 7 ?_|refine e_l1 7 ?_|refine e_l2 7 ?_|refine e_l3 7 ?_|refine e_l4 7 ?_|refine e_l5 7 ?_|refine e_l6 7 ?_|refine e_l7 7 ?_|refine e_l8 7 ?_|refine e_l9 7 ?_|refine e_g 7 ?_|refine e_q 7 ?_|refine e_e 7 ?_|refine e_j 7 ?_
            first|refine e_o 8 ?_|refine e_a 8 ?_|refine e_s 8 ?_|refine e_n 8 ?_|refine e_i 8 ?_|refine e_f 8 ?_|refine e_b 8 ?_|refine e_d 8 ?_|refine e_l1 8 ?_|refine e_l2 8 ?_|refine e_l3 8 ?_|refine e_l4 8 ?_|refine e_l5 8 ?_|refine e_l6 8 ?_|refine e_l7 8 ?_|refine e_l8 8 ?_|refine e_l9 8 ?_|refine e_g 8 ?_|refine e_q 8 ?_|refine e_e 8 ?_|refine e_j 8 ?_
            first|refine e_o 9 ?_|refine e_a 9 ?_|refine e_s 9 ?_|refine e_n 9 ?_|refine e_i 9 ?_|refine e_f 9 ?_|refine e_b 9 ?_|refine e_d 9 ?_|refine e_l1 9 ?_|refine e_l2 9 ?_|refine e_l3 9 ?_|refine e_l4 9 ?_|refine e_l5 9 ?_|refine e_l6 9 ?_|refine e_l7 9 ?_|refine e_l8 9 ?_|refine e_l9 9 ?_|refine e_g 9 ?_|refine e_q 9 ?_|refine e_e 9 ?_|refine e_j 9 ?_
            first|refine e_o 10 ?_|refine e_a 10 ?_|refine e_s 10 ?_|refine e_n 10 ?_|refine e_i 10 ?_|refine e_f 10 ?_|refine e_b 10 ?_|refine e_d 10 ?_|refine e_l1 10 ?_|refine e_l2 10 ?_|refine e_l3 10 ?_|refine e_l4 10 ?_|refine e_l5 10 ?_|refine e_l6 10 ?_|refine e_l7 10 ?_|refine e_l8 10 ?_|refine e_l9 10 ?_|refine e_g 10 ?_|refine e_q 10 ?_|refine e_e 10 ?_|refine e_j 10 ?_
            first|refine e_o 11 ?_|refine e_a 11 ?_|refine e_s 11 ?_|refine e_n 11 ?_|refine e_i 11 ?_|refine e_f 11 ?_|refine e_b 11 ?_|refine e_d 11 ?_|refine e_l1 11 ?_|refine e_l2 11 ?_|refine e_l3 11 ?_|refine e_l4 11 ?_|refine e_l5 11 ?_|refine e_l6 11 ?_|refine e_l7 11 ?_|refine e_l8 11 ?_|refine e_l9 11 ?_|refine e_g 11 ?_|refine e_q 11 ?_|refine e_e 11 ?_|refine e_j 11 ?_
            first|refine e_o 12 ?_|refine e_a 12 ?_|refine e_s 12 ?_|refine e_n 12 ?_|refine e_i 12 ?_|refine e_f 12 ?_|refine e_b 12 ?_|refine e_d 12 ?_|refine e_l1 12 ?_|refine e_l2 12 ?_|refine e_l3 12 ?_|refine e_l4 12 ?_|refine e_l5 12 ?_|refine e_l6 12 ?_|refine e_l7 12 ?_|refine e_l8 12 ?_|refine e_l9 12 ?_|refine e_g 12 ?_|refine e_q 12 ?_|refine e_e 12 ?_|refine e_j 12 ?_
            first|refine e_o 13 ?_|refine e_a 13 ?_|refine e_s 13 ?_|refine e_n 13 ?_|refine e_i 13 ?_|refine e_f 13 ?_|refine e_b 13 ?_|refine e_d 13 ?_|refine e_l1 13 ?_|refine e_l2 13 ?_|refine e_l3 13 ?_|refine e_l4 13 ?_|refine e_l5 13 ?_|refine e_l6 13 ?_|refine e_l7 13 ?_|refine e_l8 13 ?_|refine e_l9 13 ?_|refine e_g 13 ?_|refine e_q 13 ?_|refine e_e 13 ?_|refine e_j 13 ?_
            first|refine e_o 14 ?_|refine e_a 14 ?_|refine e_s 14 ?_|refine e_n 14 ?_|refine e_i 14 ?_|refine e_f 14 ?_|refine e_b 14 ?_|refine e_d 14 ?_|refine e_l1 14 ?_|refine e_l2 14 ?_|refine e_l3 14 ?_|refine e_l4 14 ?_|refine e_l5 14 ?_|refine e_l6 14 ?_|refine e_l7 14 ?_|refine e_l8 14 ?_|refine e_l9 14 ?_|refine e_g 14 ?_|refine e_q 14 ?_|refine e_e 14 ?_|refine e_j 14 ?_
            first|refine e_o 15 ?_|refine e_a 15 ?_|refine e_s 15 ?_|refine e_n 15 ?_|refine e_i 15 ?_|refine e_f 15 ?_|refine e_b 15 ?_|refine e_d 15 ?_|refine e_l1 15 ?_|refine e_l2 15 ?_|refine e_l3 15 ?_|refine e_l4 15 ?_|refine e_l5 15 ?_|refine e_l6 15 ?_|refine e_l7 15 ?_|refine e_l8 15 ?_|refine e_l9 15 ?_|refine e_g 15 ?_|refine e_q 15 ?_|refine e_e 15 ?_|refine e_j 15 ?_
            first|refine e_o 16 ?_|refine e_a 16 ?_|refine e_s 16 ?_|refine e_n 16 ?_|refine e_i 16 ?_|refine e_f 16 ?_|refine e_b 16 ?_|refine e_d 16 ?_|refine e_l1 16 ?_|refine e_l2 16 ?_|refine e_l3 16 ?_|refine e_l4 16 ?_|refine e_l5 16 ?_|refine e_l6 16 ?_|refine e_l7 16 ?_|refine e_l8 16 ?_|refine e_l9 16 ?_|refine e_g 16 ?_|refine e_q 16 ?_|refine e_e 16 ?_|refine e_j 16 ?_
            first|refine e_o 17 ?_|refine e_a 17 ?_|refine e_s 17 ?_|refine e_n 17 ?_|refine e_i 17 ?_|refine e_f 17 ?_|refine e_b 17 ?_|refine e_d 17 ?_|refine e_l1 17 ?_|refine e_l2 17 ?_|refine e_l3 17 ?_|refine e_l4 17 ?_|refine e_l5 17 ?_|refine e_l6 17 ?_|refine e_l7 17 ?_|refine e_l8 17 ?_|refine e_l9 17 ?_|refine e_g 17 ?_|refine e_q 17 ?_|refine e_e 17 ?_|refine e_j 17 ?_
            first|refine e_o 18 ?_|refine e_a 18 ?_|refine e_s 18 ?_|refine e_n 18 ?_|refine e_i 18 ?_|refine e_f 18 ?_|refine e_b 18 ?_|refine e_d 18 ?_|refine e_l1 18 ?_|refine e_l2 18 ?_|refine e_l3 18 ?_|refine e_l4 18 ?_|refine e_l5 18 ?_|refine e_l6 18 ?_|refine e_l7 18 ?_|refine e_l8 18 ?_|refine e_l9 18 ?_|refine e_g 18 ?_|refine e_q 18 ?_|refine e_e 18 ?_|refine e_j 18 ?_
            first|refine e_o 19 ?_|refine e_a 19 ?_|refine e_s 19 ?_|refine e_n 19 ?_|refine e_i 19 ?_|refine e_f 19 ?_|refine e_b 19 ?_|refine e_d 19 ?_|refine e_l1 19 ?_|refine e_l2 19 ?_|refine e_l3 19 ?_|refine e_l4 19 ?_|refine e_l5 19 ?_|refine e_l6 19 ?_|refine e_l7 19 ?_|refine e_l8 19 ?_|refine e_l9 19 ?_|refine e_g 19 ?_|refine e_q 19 ?_|refine e_e 19 ?_|refine e_j 19 ?_
            refine WE_last 20 (by kernel_rfl) rfl (by kernel_rfl) ?_
            replace hke := hke.keep hS
            replace hle := hle.keep hS
            replace hbe := hbe.keep hS
            refine o_store1 (b := bC) (off := p) rfl rfl (by rw [ea_blk]; simp) rfl rfl hbe (by simp; omega) ?_
            intro wf huf
            have hbf : Blk wf bC 3 ((ds.set p (gi ds (p : Int) + 1)).map (Value.int .i64)) := by rw [← map_set_int]; exact huf.blk
            refine WL_end ?_
            refine WE_done (by kernel_rfl) ?_
            repeat refine zz ?_
            exact ⟨(j + 1, ds.set p (gi ds (p : Int) + 1)), ⟨rfl, rfl, rfl, rfl, rfl, rfl, trivial⟩, ⟨hke.upd huf (by omega), by dsimp only; omega, hle.upd huf hbl, hbf, by dsimp only; rw [List.length_set]; exact hdl', fun i hi => cq_put (by omega) (by omega) hp (by omega) (fun i hi => hds i (by omega)) i (by omega)⟩, by dsimp only; omega⟩
          · simp at hc4
            have hjn : j = f.length := by omega
            repeat refine zz ?_
            exact ⟨(n + 1, ds), ⟨rfl, rfl, rfl, rfl, rfl, trivial⟩, ⟨hke, by dsimp only; omega, hle, hbe, hdl', fun i hi => by dsimp only; rw [hds i hi, hjn, cnt_next], by dsimp only; rw [hgo]; exact hend⟩, by dsimp only; omega⟩
      · simp at hq
        have he : endN L f = n := by rw [← hend, show L.length - n = 0 by omega]; unfold endF; omega
        repeat refine zz ?_
        exact ⟨⟨rfl, rfl, rfl, by rw [he]; rfl, trivial⟩, hkb, cs, hbb, hcl, by rw [he]; exact hcs⟩
end Go.E
set_option linter.unusedVariables false
set_option linter.unusedSimpArgs false
namespace Go.E
open Go Go.RowKit Go.Proofs
theorem is_get {w : World} {A : Option Addr} {n c : Nat} {xss : List (List Itm)} {fp : List Nat} (h : Sl (slR itemR) w (.slice A n c) xss fp) {i : Int} (h0 : 0 ≤ i) (hi : i < n) :
    A.isSome = true ∧ ∃ u f, Cell w (ea A 1 i) u ∧ Sl itemR w u (gi xss i) f ∧ (∀ b, b ∈ f → b ∈ fp) := by
  obtain ⟨hA, cs, f, ⟨u, rfl, hu⟩, hf, hc⟩ := h.get h0 hi
  exact ⟨hA, u, f, hc.one, hu, hf⟩
theorem wf_small {x : Int} (h0 : 0 ≤ x) (h1 : x ≤ 4000) : (Lit.int .i64 x).wf = true := by
  simp only [Lit.wf, Bool.and_eq_true, decide_eq_true_eq]
  exact ⟨Int.le_trans (by decide) h0, Int.le_trans h1 (by decide)⟩
theorem gi_map_byF {L : List Itm} {f : List Int} {k : Nat} (h : k < f.length) : gi (f.map (byF L)) (k : Int) = byF L (gi f (k : Int)) := gi_mapI h
theorem byF_item {L : List Itm} (hit : ∀ i : Nat, i < L.length → isItem (gi L (i : Int)) = true) {k : Int} {n : Nat} (hn : n < L.length) : isItem (gi (byF L k) (n : Int)) = true := by
  have h := ord_at (L := L) (k := k) hn
  rw [byF_at hn]
  have := hit (gi (ordL L k) (n : Int)).toNat (by omega)
  rwa [show (((gi (ordL L k) (n : Int)).toNat : Nat) : Int) = gi (ordL L k) (n : Int) by omega] at this
attribute [local irreducible] W WL WD WE thenE inE retQ PureOp Keep Cell Cells Blk Sl Rows Own Src Fresh
attribute [local irreducible] ordL byF cnt cq IMap

set_option maxHeartbeats 4000000 in
theorem ended_ok {w : World} {v u vl : Value} {L : List Itm} {f : List Int} {fp gp hp : List Nat} {n nm b0 b2 b3 b11 b4 bm : Nat} {m : Int → Int} (hL : Sl itemR w v L fp) (hf : Sl intR w u f gp) (hls : Sl (slR itemR) w vl (f.map (byF L)) hp)
    (h0 : Blk w b0 3 [.int .i64 (n : Int)]) (h2 : Blk w b2 24 [v]) (h3 : Blk w b3 25 [u]) (h11 : Blk w b11 43 [.map (some bm)]) (h4 : Blk w b4 41 [vl]) (hm : IMap w bm nm m)
    (hn : n ≤ L.length) (hms : ∀ i : Nat, i < L.length → m (gi L (i : Int)).id = (cnt L f n (i : Int) : Int)) (hit : ∀ i : Nat, i < L.length → isItem (gi L (i : Int)) = true) (hff : isFieldList f = true) :
    Run Tryz.prog 24 [.pointer (some ⟨b0, 0, none⟩), .pointer (some ⟨b2, 0, none⟩), .pointer (some ⟨b3, 0, none⟩), .pointer (some ⟨b11, 0, none⟩), .pointer (some ⟨b4, 0, none⟩)] w (fun r w' => r = .bool (decide (n = L.length) || stp L f n) ∧ Keep w w') := by
  have hnL := hL.le
  have hnf := hf.le
  have hf3 := fieldList_len hff
  obtain ⟨A, nL, cL, rfl, hlL⟩ := hL.split
  obtain ⟨B, nf, cf_, rfl, hlf⟩ := hf.split
  obtain ⟨C, nl, cl, rfl, hll⟩ := hls.split
  rw [List.length_map] at hll
  have hst : stp L f n = exB L.length fun i => decide (cnt L f n (i : Int) = f.length) && exB f.length fun k => decide (fval (gi f (k : Int)) (gi L (i : Int)) < fval (gi f (k : Int)) (gi (byF L (gi f (k : Int))) (n : Int))) := rfl
  have hc0 := h0.cell (i := 0) (v := .int .i64 (n : Int)) rfl
  have hc2 := h2.cell (i := 0) (v := .slice A nL cL) rfl
  have hc3 := h3.cell (i := 0) (v := .slice B nf cf_) rfl
  have hc11 := h11.cell (i := 0) (v := .map (some bm)) rfl
  have hc4 := h4.cell (i := 0) (v := .slice C nl cl) rfl
  refine Run_intro Tryz.func24 (by unfold CallOk; kernel_rfl) rfl Tryz.ntmps24 (Nat.le_of_ble_eq_true rfl) ?_
  simp only [penv, Nat.reduceAdd, Nat.zero_add]
  repeat refine zz ?_
  refine W_cond rfl (fun he => ?_) (fun he => ?_)
  · simp at he
    repeat refine zz ?_
    exact ret1 rfl rfl ⟨by rw [decide_eq_true (show n = L.length by omega)]; rfl, Keep.refl _⟩
  simp at he
  have hnl : n < L.length := by omega
  rw [decide_eq_false (show ¬ n = L.length by omega), Bool.false_or]
  repeat refine zz ?_
  refine W_loop (S := Nat) (fun i => [(0, .pointer (some ⟨b0, 0, none⟩)), (1, .pointer (some ⟨b2, 0, none⟩)), (2, .pointer (some ⟨b3, 0, none⟩)), (3, .pointer (some ⟨b11, 0, none⟩)), (4, .pointer (some ⟨b4, 0, none⟩)), (14, .slice A nL cL), (15, .int .i64 (nL : Int)), (16, .int .i64 (i : Int))]) (fun i w' => Keep w w' ∧ i ≤ nL ∧ ∀ a, a < i → (fun i : Nat => decide (cnt L f n (i : Int) = f.length) && exB f.length fun k => decide (fval (gi f (k : Int)) (gi L (i : Int)) < fval (gi f (k : Int)) (gi (byF L (gi f (k : Int))) (n : Int)))) a = false) (fun i => nL - i) 0 ⟨rfl, rfl, rfl, rfl, rfl, rfl, rfl, rfl, trivial⟩ ⟨Keep.refl _, Nat.zero_le _, fun a h => absurd h (by omega)⟩ ?_
  rintro i wa ⟨hka, hi, hall⟩
  have hLa := hL.keep hka
  repeat refine zz ?_
  refine W_cond rfl (fun hc1 => ?_) (fun hc1 => ?_)
  · simp at hc1
    have hin : i < nL := by omega
    obtain ⟨hA, u3, f3, hcell3, hu3, _⟩ := item_get hLa (i := (i : Int)) (by omega) (by omega)
    have hv3 := item_vals hit (i := (i : Int)) (by omega) (by omega)
    have o3 := hu3.oneCell
    repeat refine zz ?_
    refine o_alloc rfl rfl ?_
    intro bR wR halR
    have hbR0 := halR.blk
    repeat refine zz ?_
    refine o_storeS (b := bR) (off := 0) rfl rfl rfl rfl (by repeat (first | exact ones_nil | refine ones_cons (by first | rfl | assumption) ?_)) rfl hbR0 (by simp) ?_
    intro wS huS
    have hbR : Blk wS bR _ [.int .i64 (gi L (i : Int)).id, u3] := huS.blk
    have hkS := halR.kp.upd huS (Nat.le_of_eq halR.b_eq.symm)
    have hRe := halR.b_eq
    clear hbR0 huS halR
    replace hka := hka.keep hkS
    have hc3S := hc3.keep hka
    repeat refine zz ?_
    refine W_loop (S := Nat) (fun k => [(0, .pointer (some ⟨b0, 0, none⟩)), (1, .pointer (some ⟨b2, 0, none⟩)), (2, .pointer (some ⟨b3, 0, none⟩)), (3, .pointer (some ⟨b11, 0, none⟩)), (4, .pointer (some ⟨b4, 0, none⟩)), (14, .slice A nL cL), (15, .int .i64 (nL : Int)), (16, .int .i64 (i : Int)), (7, .pointer (some ⟨bR, 0, none⟩)), (20, .slice B nf cf_), (21, .int .i64 (nf : Int)), (22, .int .i64 (k : Int))]) (fun k w' => Keep wS w' ∧ k ≤ nf ∧ ∀ a, a < k → (decide (cnt L f n (i : Int) = f.length) && (fun k : Nat => decide (fval (gi f (k : Int)) (gi L (i : Int)) < fval (gi f (k : Int)) (gi (byF L (gi f (k : Int))) (n : Int)))) a) = false) (fun k => nf - k) 0 ⟨rfl, rfl, rfl, rfl, rfl, rfl, rfl, rfl, rfl, rfl, rfl, rfl, trivial⟩ ⟨Keep.refl _, Nat.zero_le _, fun a h => absurd h (by omega)⟩ ?_
    rintro k wb ⟨hkb, hk, hall2⟩
    have hkw := hka.keep hkb
    have hLb := hL.keep hkw
    have hfb := hf.keep hkw
    have hlsb := hls.keep hkw
    have hmb := hm.keep hkw
    have d0 := hc0.keep hkw
    have d2 := hc2.keep hkw
    have d3 := hc3.keep hkw
    have d11 := hc11.keep hkw
    have d4 := hc4.keep hkw
    have hbRb := hbR.keep hkb
    have hu3b := (hu3.keep hkS).keep hkb
    repeat refine zz ?_
    refine W_cond rfl (fun hc5 => ?_) (fun hc5 => ?_)
    · simp at hc5
      have hkf : k < nf := by omega
      have hfk := field_at hff (k := k) (by omega)
      obtain ⟨hB, hcf⟩ := hfb.getI (i := (k : Int)) (by omega) (by omega)
      obtain ⟨hC, u1, f1, hcl1, hu1, _⟩ := is_get hlsb (i := (k : Int)) (by omega) (by omega)
      rw [gi_map_byF (by omega)] at hu1
      obtain ⟨A1, n1, c1, rfl, hn1⟩ := hu1.split
      rw [byF_len] at hn1
      obtain ⟨hA1, u2, f2, hcell2, hu2, _⟩ := item_get hu1 (i := (n : Int)) (by omega) (by omega)
      have hv2 := isItem_len (byF_item (k := gi f (k : Int)) hit hnl)
      obtain ⟨A2, n2, c2, rfl, hn2⟩ := hu2.split
      obtain ⟨A3, n3, c3, rfl, hn3⟩ := hu3b.split
      obtain ⟨hA2, hc22⟩ := hu2.getI (i := gi f (k : Int)) (by omega) (by omega)
      obtain ⟨hA3, hc33⟩ := hu3b.getI (i := gi f (k : Int)) (by omega) (by omega)
      have e2 : gi (gi (byF L (gi f (k : Int))) (n : Int)).vals (gi f (k : Int)) = fval (gi f (k : Int)) (gi (byF L (gi f (k : Int))) (n : Int)) := rfl
      have e3 : gi (gi L (i : Int)).vals (gi f (k : Int)) = fval (gi f (k : Int)) (gi L (i : Int)) := rfl
      rw [e2] at hc22
      rw [e3] at hc33
      have hid := isItem_id (hit i (by omega))
      repeat refine zz ?_
      refine W_quiet (Keep wb) (by kernel_rfl) (by kernel_rfl) (Keep.drew _) ?_
      repeat refine qq ?_
      refine WQ_pure rfl rfl (fun w' hw' => o_lookup rfl rfl (hmb.keep hw') (wf_small hid.1 (by omega))) ?_
      rw [hms i (by omega)]
      repeat refine qq ?_
      refine WQ_part rfl rfl (fun hg => ?_) (fun hg => ?_)
      · simp only [decide_eq_true_eq] at hg
        have hyes : decide (cnt L f n (i : Int) = f.length) = true := decide_eq_true (by omega)
        repeat refine qq ?_
        intro wd hkd 
        repeat refine zz ?_
        refine W_cond rfl (fun hd => ?_) (fun hd => ?_)
        · repeat refine zz ?_
          refine ret1 rfl rfl ⟨?_, hkw.keep hkd⟩
          rw [hst, exB_t (k := i) (by omega) (by rw [hyes, exB_t (k := k) (by omega) hd]; rfl)]
        · repeat refine zz ?_
          exact ⟨k + 1, ⟨rfl, rfl, rfl, rfl, rfl, rfl, rfl, rfl, rfl, rfl, rfl, rfl, trivial⟩, ⟨hkb.keep hkd, by omega, all_no hall2 (by dsimp only; rw [hd, Bool.and_false])⟩, by omega⟩
      · simp only [decide_eq_false_iff_not] at hg
        have hno : decide (cnt L f n (i : Int) = f.length) = false := decide_eq_false (by omega)
        repeat refine qq ?_
        intro wd hkd 
        repeat refine zz ?_
        exact ⟨k + 1, ⟨rfl, rfl, rfl, rfl, rfl, rfl, rfl, rfl, rfl, rfl, rfl, rfl, trivial⟩, ⟨hkb.keep hkd, by omega, all_no hall2 (by rw [hno, Bool.false_and])⟩, by omega⟩
    · simp at hc5
      obtain rfl : k = nf := by omega
      have hfin : (decide (cnt L f n (i : Int) = f.length) && exB f.length fun k => decide (fval (gi f (k : Int)) (gi L (i : Int)) < fval (gi f (k : Int)) (gi (byF L (gi f (k : Int))) (n : Int)))) = false := by
        cases hx : decide (cnt L f n (i : Int) = f.length) with
        | false => rfl
        | true => rw [hx] at hall2; rw [exB_f (fun a ha => by have := hall2 a (by omega); rwa [Bool.true_and] at this)]; rfl
      repeat refine zz ?_
      exact ⟨i + 1, ⟨rfl, rfl, rfl, rfl, rfl, rfl, rfl, rfl, trivial⟩, ⟨hkw, by omega, all_no hall hfin⟩, by omega⟩
  · simp at hc1
    obtain rfl : i = nL := by omega
    repeat refine zz ?_
    refine ret1 rfl rfl ⟨?_, hka⟩
    rw [hst, exB_f (fun a ha => hall a (by omega))]
end Go.E
set_option linter.unusedVariables false
set_option linter.unusedSimpArgs false
namespace Go.E
open Go Go.RowKit Go.Proofs
theorem ids_apart {L : List Itm} (h : areItems L = true) {i j : Nat} (hi : i < L.length) (hj : j < L.length) (he : (gi L (i : Int)).id = (gi L (j : Int)).id) : i = j := by
  have key : ∀ k a : Nat, a < k → k < L.length → (gi L (a : Int)).id < (gi L (k : Int)).id := by
    intro k
    induction k with
    | zero => intro a h1; omega
    | succ k ih =>
      intro a h1 h2
      have h' := h
      simp only [areItems, Bool.and_eq_true] at h'
      have h3 := List.all_eq_true.1 h'.1 (k + 1) (by simpa using h2)
      simp only [itAt, Bool.and_eq_true, Bool.or_eq_true, decide_eq_true_eq] at h3
      have h4 := h3.2.resolve_left (by omega)
      rw [show ((k + 1 : Nat) : Int) - 1 = (k : Int) by omega] at h4
      rcases Nat.lt_or_ge a k with h5 | h5
      · exact Int.lt_trans (ih a h5 (by omega)) h4
      · obtain rfl : a = k := by omega
        exact h4
  rcases Nat.lt_trichotomy i j with h1 | h1 | h1
  · have := key j i h1 hj; omega
  · exact h1
  · have := key i j h1 hi; omega
theorem mcq_put {L : List Itm} {f : List Int} {n j p : Nat} {m : Int → Int} (ha : areItems L = true) (hn : n < L.length) (hj : j < f.length) (hpl : p < L.length) (hp : gi (ordL L (gi f (j : Int))) (n : Int) = (p : Int))
    (hms : ∀ i : Nat, i < L.length → m (gi L (i : Int)).id = (cq L f n j (i : Int) f.length : Int)) :
    ∀ i : Nat, i < L.length → (fun q => if q = (gi L (p : Int)).id then m (gi L (p : Int)).id + 1 else m q) (gi L (i : Int)).id = (cq L f n (j + 1) (i : Int) f.length : Int) := by
  intro i hi
  have hs := cq_step (L := L) (f := f) (n := n) (j := j) hn (i : Int) f.length
  dsimp only
  by_cases he : i = p
  · subst he
    rw [if_pos rfl, hs, if_pos ⟨hj, hp.symm⟩, hms i hi]; omega
  · rw [if_neg (fun e => he (ids_apart ha hi hpl e)), hs, if_neg (fun e => he (by have := e.2; rw [hp] at this; omega)), hms i hi]; omega
attribute [local irreducible] W WL WD WE thenE inE retQ PureOp Keep Cell Cells Blk Sl Rows Own Src Fresh
attribute [local irreducible] ordL byF cnt cq seenI endN stp lowE bestL isFieldList areItems endF IMap

set_option maxHeartbeats 4000000 in
theorem impl_SortedBest_ok {w : World} {v u : Value} {L : List Itm} {f : List Int} {fp gp : List Nat} (hL : Sl itemR w v L fp) (hf : Sl intR w u f gp) :
    Run Tryz.prog 6 [v, u] w (fun r w' => Keep w w' ∧ ∃ x h, r = .tuple #[x, .int .i64 (sortedBest L f).2] ∧ Sl intR w' x (sortedBest L f).1 h ∧ Fresh w.heap.size w' h) := by
  have hnL := hL.le
  have hnf := hf.le
  have hL0 := hL
  have hf0 := hf
  have hd0 := hL.dom
  have oL := hL.oneCell
  have of := hf.oneCell
  obtain ⟨A, nL, cL, rfl, hlL⟩ := hL.split
  obtain ⟨B, nf, cf_, rfl, hlf⟩ := hf.split
  refine Run_intro Tryz.func6 (by unfold CallOk; kernel_rfl) rfl Tryz.ntmps6 (Nat.le_of_ble_eq_true rfl) ?_
  simp only [penv, Nat.reduceAdd, Nat.zero_add]
  repeat refine zz ?_
  refine o_box rfl rfl rfl ?_
  intro b2 w1 hal2
  have hb2 : Blk w1 b2 24 [.slice A nL cL] := by simpa [Value.cells] using hal2.blk
  have e2 := hal2.b_eq
  have s2 := hal2.size
  have hk := hal2.kp
  repeat refine zz ?_
  refine o_box rfl rfl rfl ?_
  intro b3 w2 hal3
  have hb3 : Blk w2 b3 25 [.slice B nf cf_] := by simpa [Value.cells] using hal3.blk
  have e3 := hal3.b_eq
  have s3 := hal3.size
  replace hk := hk.keep hal3.kp
  replace hb2 := hb2.keep hal3.kp
  have c3 := hb3.cell (i := 0) (v := .slice B nf cf_) rfl
  repeat refine zz ?_
  refine o_call rfl rfl rfl (impl_LowExpression_ok (hf0.keep hk)) ?_
  rintro _ w3 ⟨k3, ve, fe, rfl, hle, _⟩
  replace hk := hk.keep k3
  replace hb2 := hb2.keep k3
  replace hb3 := hb3.keep k3
  have oe := hle.oneCell
  repeat refine zz ?_
  refine WL_part rfl rfl (fun h1 => ?_) (fun h1 => ?_)
  · simp at h1
    have hsb : sortedBest L f = ([], 0) := by unfold sortedBest; rw [h1, Bool.and_false]; rfl
    repeat refine zz ?_
    refine o_buildSlice rfl rfl rfl rfl rfl (by intro p hp; cases hp) (by omega) ?_
    intro bO wO halO
    have hkO := halO.kp
    have ho : OwnF intR wO w.heap.size 3 (.slice (some ⟨bO, 0, none⟩) 0 0) [] [] := OwnF.made halO.blk (by have := halO.b_eq; have := hk.size_le; omega)
    obtain ⟨fO, hsO, hfO⟩ := ho.sl (by decide)
    repeat refine zz ?_
    exact ret2 rfl rfl rfl ⟨hk.keep hkO, _, fO, by rw [hsb], by rw [hsb]; exact hsO, hfO⟩
  simp at h1
  have c2 := hb2.cell (i := 0) (v := .slice A nL cL) rfl
  repeat refine zz ?_
  refine o_call rfl rfl rfl (impl_AreItems_ok (hL0.keep hk)) ?_
  rintro _ w4 ⟨rfl, k4⟩
  replace hk := hk.keep k4
  replace hb2 := hb2.keep k4
  replace hb3 := hb3.keep k4
  replace hle := hle.keep k4
  repeat refine zz ?_
  refine W_cond rfl (fun h2 => ?_) (fun h2 => ?_)
  · simp at h2
    have hsb : sortedBest L f = ([], 0) := by unfold sortedBest; rw [h2]; rfl
    repeat refine zz ?_
    refine o_buildSlice rfl rfl rfl rfl rfl (by intro p hp; cases hp) (by omega) ?_
    intro bO wO halO
    have hkO := halO.kp
    have ho : OwnF intR wO w.heap.size 3 (.slice (some ⟨bO, 0, none⟩) 0 0) [] [] := OwnF.made halO.blk (by have := halO.b_eq; have := hk.size_le; omega)
    obtain ⟨fO, hsO, hfO⟩ := ho.sl (by decide)
    repeat refine zz ?_
    exact ret2 rfl rfl rfl ⟨hk.keep hkO, _, fO, by rw [hsb], by rw [hsb]; exact hsO, hfO⟩
  simp at h2
  have hsb : sortedBest L f = (bestL (seenI L f) (lowE f), (endN L f : Int) * f.length) := by unfold sortedBest; rw [h1, h2]; rfl
  rw [hsb]
  dsimp only
  have hf3 := fieldList_len h1
  obtain ⟨hit, hl16⟩ := areItems_at h2
  clear c3 c2
  repeat refine zz ?_
  have q2 := hb2.lt
  have q3 := hb3.lt
  have qe := hle.dom
  refine o_buildSlice rfl rfl rfl rfl rfl (by intro p hp; cases hp) (by omega) ?_
  intro bO wO halO
  have hkO := halO.kp
  have zO := halO.b_eq
  have sO := halO.size
  have s1 := hk.size_le
  have ho1 : Own (slR itemR) wO bO 24 (.slice (some ⟨bO, 0, none⟩) 0 0) [] [] := Own.made halO.blk (by simp) (Nat.zero_le _) (Nat.le_refl _)
  replace hk := hk.keep hkO
  replace hb2 := hb2.keep hkO
  replace hb3 := hb3.keep hkO
  replace hle := hle.keep hkO
  clear halO
  have l2 := hb2.lt
  have l3 := hb3.lt
  have hdle := hle.dom
  repeat refine zz ?_
  refine o_alloc rfl rfl ?_
  intro b8 w5 hal8
  have e8 := hal8.b_eq
  have s8 := hal8.size
  have hb80 := hal8.blk
  replace hk := hk.keep hal8.kp
  replace hb2 := hb2.keep hal8.kp
  replace hb3 := hb3.keep hal8.kp
  replace hle := hle.keep hal8.kp
  replace ho1 := ho1.keep hal8.kp
  repeat refine zz ?_
  refine o_store1 (b := b8) (off := 0) rfl rfl rfl rfl rfl hb80 (by simp) ?_
  intro w6 hu6
  have hb8 : Blk w6 b8 41 [.slice (some ⟨bO, 0, none⟩) 0 0] := hu6.blk
  have s6 := hu6.size
  replace hk := hk.upd hu6 (by omega)
  replace hb2 := hb2.upd hu6 (by omega)
  replace hb3 := hb3.upd hu6 (by omega)
  replace ho1 := ho1.upd hu6 (by simp [Value.ownBlock]; omega) (by simp)
  replace hle := hle.upd hu6 (fun hm => by have := hdle _ hm; omega)
  have c3 := hb3.cell (i := 0) (v := .slice B nf cf_) rfl
  clear hu6 hb80 hal8
  repeat refine zz ?_
  refine W_loop (S := Nat × Value) (fun s => [(2, .pointer (some ⟨b2, 0, none⟩)), (3, .pointer (some ⟨b3, 0, none⟩)), (6, ve), (8, .pointer (some ⟨b8, 0, none⟩)), (33, .slice B nf cf_), (34, .int .i64 (nf : Int)), (35, .int .i64 (s.1 : Int))]) (fun s w' => Keep w w' ∧ s.1 ≤ nf ∧ Blk w' b2 24 [.slice A nL cL] ∧ Blk w' b3 25 [.slice B nf cf_] ∧ Blk w' b8 41 [s.2] ∧ Sl nodeR w' ve (lowE f) fe ∧ ∃ fi, Own (slR itemR) w' bO 24 s.2 ((f.map (byF L)).take s.1) fi ∧ (∀ b, s.2.ownBlock = some b → b ∉ fi ∧ b ≠ b8) ∧ ∀ b, b ∈ fi → b ≠ b8) (fun s => nf - s.1) (0, _) ⟨rfl, rfl, rfl, rfl, rfl, rfl, rfl, trivial⟩ ⟨hk, Nat.zero_le _, hb2, hb3, hb8, hle, [], by simpa using ho1, fun b hb => ⟨by simp, by simp [Value.ownBlock] at hb; omega⟩, fun b hb => by cases hb⟩ ?_
  clear ho1 hk hb2 hb3 hb8 hle c3 hdle
  rintro ⟨k, va⟩ wa ⟨hka, hk, hb2, hb3, hb8, hle, fi, hoa, hout, hne⟩
  dsimp only at hk hoa hb8 hout hne ⊢
  have hza := hka.size_le
  have hfa := hf0.keep hka
  obtain ⟨Ao, no, co, rfl, hno, _⟩ := hoa.split
  have hlk : ((f.map (byF L)).take k).length ≤ 3 := by rw [List.length_take, List.length_map]; omega
  repeat refine zz ?_
  refine W_cond rfl (fun hc => ?_) (fun hc => ?_)
  · simp at hc
    have hkf : k < nf := by omega
    have hfk := field_at h1 (k := k) (by omega)
    obtain ⟨hB, hcf⟩ := hfa.getI (i := (k : Int)) (by omega) (by omega)
    have hown := fun c hc => (hoa.lt (b := c) hc)
    have hlb8 := hb8.lt
    repeat refine zz ?_
    have hS := Keep.drew wa
    refine W_late (fun w' => Blk w' b8 41 [.slice Ao no co] ∧ Blk w' b2 24 [.slice A nL cL]) [6] (by kernel_rfl) ⟨hb8.keep hS, hb2.keep hS⟩ ?_
    have hdi := hoa.dom
    replace hka := hka.keep hS
    replace hb2 := hb2.keep hS
    replace hb3 := hb3.keep hS
    replace hb8 := hb8.keep hS
    replace hle := hle.keep hS
    replace hoa := hoa.keep hS
    have sS := hS.size_le
    refine WE_take 0 40 rfl (by kernel_rfl) (by kernel_rfl) (by kernel_rfl) (by kernel_rfl) (by kernel_rfl) (by repeat (first | exact np_ret | refine np_then ?_ | refine np_in ?_)) rfl rfl (fun w' hw' => o_load rfl (hw'.1.cell (i := 0) rfl)) ?_
    refine WE_take 1 40 rfl (by kernel_rfl) (by kernel_rfl) (by kernel_rfl) (by kernel_rfl) (by kernel_rfl) (by repeat (first | exact np_ret | refine np_then ?_ | refine np_in ?_)) rfl rfl (fun w' hw' => o_load rfl (hw'.2.cell (i := 0) rfl)) ?_
    refine WE_takeP 2 rfl (by kernel_rfl) (by kernel_rfl) (by kernel_rfl) (by kernel_rfl) (by repeat (first | exact np_ret | refine np_then ?_ | refine np_in ?_)) rfl rfl (fun w' => o_move rfl) ?_
    refine WE_one 3 (by kernel_rfl) rfl ?_
    refine o_call rfl rfl rfl (byField_ok (hL0.keep hka) hit hl16 hfk) ?_
    rintro vo wo ⟨ko, fo, hso, hfo⟩
    have eo : sortP (fval (gi f (k : Int))) L = byF L (gi f (k : Int)) := by unfold byF; rfl
    rw [eo] at hso
    replace hka := hka.keep ko
    replace hb2 := hb2.keep ko
    replace hb3 := hb3.keep ko
    replace hb8 := hb8.keep ko
    replace hle := hle.keep ko
    replace hoa := hoa.keep ko
    have so := ko.size_le
    have hdo := hso.dom
    have oo := hso.oneCell
    obtain ⟨Av, nv, cv, rfl, hnv⟩ := hso.split
    refine WL_end ⟨⟨hb8, hb2⟩, ?_⟩
    refine WE_one 4 (by kernel_rfl) rfl ?_
    refine o_buildSlice rfl rfl rfl rfl rfl (by simp [Value.cells]) (by omega) ?_
    intro b9 w9 hal9
    have hb9 : Blk w9 b9 24 [.slice Av nv cv] := by simpa [Value.cells] using hal9.blk
    have e9 := hal9.b_eq
    replace hka := hka.keep hal9.kp
    replace hb2 := hb2.keep hal9.kp
    replace hb3 := hb3.keep hal9.kp
    replace hb8 := hb8.keep hal9.kp
    replace hle := hle.keep hal9.kp
    replace hoa := hoa.keep hal9.kp
    replace hso := hso.keep hal9.kp
    have s9 := hal9.size
    have hl8 := hb8.lt
    refine WL_end ⟨⟨hb8, hb2⟩, ?_⟩
    refine WE_one 5 (by kernel_rfl) rfl ?_
    refine o_append (R := slR itemR) (gi := fo) rfl rfl rfl rfl rfl (by decide) hoa (Blk.src (xs := [byF L (gi f (k : Int))]) hb9 (Rows.single (R := slR itemR) ⟨_, rfl, hso⟩)) rfl (fun c hc => ⟨(hout c hc).1, fun hm => by
      have h1 := hown c hc
      rcases hfo c hm with h | h
      · omega
      · have := hd0 c h; omega⟩) (by simp only [List.length_cons, List.length_nil]; omega) (by simp only [List.length_cons, List.length_nil]; omega) (by omega) ?_
    intro v10 w10 ho10 hg10 hv10
    have s10 := hg10.size
    have hl8' := hb8.lt
    have hfo2 : ∀ c, c ∈ fo → c ≠ b8 := fun c hm e => by
      rcases hfo c hm with h | h
      · have := hlb8; omega
      · have := hd0 c h; omega
    replace hb2 := hb2.grown hg10 (fun e => by have := (hown _ e.symm).1; omega)
    replace hb3 := hb3.grown hg10 (fun e => by have := (hown _ e.symm).1; omega)
    replace hb8 := hb8.grown hg10 (fun e => (hout _ e.symm).2 rfl)
    replace hle := hle.grownN hg10 (fun c hc hm => by have := (hown c hc).1; have := qe c hm; omega)
    replace hka := hka.grown hg10 (fun c hc => by have := (hown c hc).1; omega)
    have hout10 : ∀ c, v10.ownBlock = some c → c ∉ fi ++ fo ∧ c ≠ b8 := fun c hc => by
      rcases hv10 with h | h
      · rw [h] at hc
        refine ⟨fun hm => ?_, (hout c hc).2⟩
        rcases List.mem_append.1 hm with h2 | h2
        · exact (hout c hc).1 h2
        · have h1 := hown c hc
          rcases hfo c h2 with h | h
          · omega
          · have := hd0 c h; omega
      · rw [h] at hc
        simp only [Option.some.injEq] at hc
        refine ⟨fun hm => ?_, by omega⟩
        rcases List.mem_append.1 hm with h2 | h2
        · have := hdi c h2; omega
        · have := hdo c h2; omega
    refine WL_end ⟨⟨hb8, hb2⟩, ?_⟩
    obtain ⟨A10, n10, c10, rfl, _, _⟩ := ho10.split
    refine WE_last 6 (by kernel_rfl) rfl (by kernel_rfl) ?_
    refine o_store1 (b := b8) (off := 0) rfl rfl rfl rfl rfl hb8 (by simp) ?_
    intro w11 hu11
    have hb8n : Blk w11 b8 41 [.slice A10 n10 c10] := hu11.blk
    refine WL_end ?_
    refine WE_done (by kernel_rfl) ?_
    repeat refine zz ?_
    exact ⟨(k + 1, .slice A10 n10 c10), ⟨rfl, rfl, rfl, rfl, rfl, rfl, rfl, trivial⟩, ⟨hka.upd hu11 (by omega), by dsimp only; omega, hb2.upd hu11 (by omega), hb3.upd hu11 (by omega), hb8n, hle.upd hu11 (fun hm => by have := qe _ hm; omega), fi ++ fo, by
      dsimp only
      rw [take_gi (by rw [List.length_map]; omega), gi_map_byF (by omega)]
      exact ho10.upd hu11 (fun e => (hout10 _ e).2 rfl) (fun hm => by
        rcases List.mem_append.1 hm with h | h
        · exact hne _ h rfl
        · exact hfo2 _ h rfl), hout10, fun c hm => by
        rcases List.mem_append.1 hm with h | h
        · exact hne _ h
        · exact hfo2 _ h⟩, by dsimp only; omega⟩
  · simp at hc
    have hkn : k = nf := by omega
    have etk : (f.map (byF L)).take k = f.map (byF L) := List.take_of_length_le (by rw [List.length_map]; omega)
    rw [etk] at hoa
    obtain ⟨hp, hls, hfm, _⟩ := hoa.sl (by decide)
    have hdl := hls.dom
    have hlb8 : b8 ∉ hp := fun hm => by
      rcases hfm _ hm with h | h
      · exact (hout _ h).2 rfl
      · exact hne _ h rfl
    rw [List.length_take, List.length_map] at hno
    clear hoa etk hout hne
    have p2 := hb2.lt
    have p3 := hb3.lt
    have p8 := hb8.lt
    have ple := hle.dom
    repeat refine zz ?_
    refine o_makeMap rfl rfl ?_
    intro wM hM kM sM
    have zM := hM.lt
    replace hka := hka.keep kM
    replace hb2 := hb2.keep kM
    replace hb3 := hb3.keep kM
    replace hb8 := hb8.keep kM
    replace hle := hle.keep kM
    replace hls := hls.keep kM
    generalize hbm : wa.heap.size = bm at *
    have m2 := hb2.lt
    have m3 := hb3.lt
    have m8 := hb8.lt
    have mle := hle.dom
    have mls := hls.dom
    repeat refine zz ?_
    refine o_alloc rfl rfl ?_
    intro b11 w12 hal11
    have e11 := hal11.b_eq
    have s11 := hal11.size
    have hb110 := hal11.blk
    replace hka := hka.keep hal11.kp
    replace hb2 := hb2.keep hal11.kp
    replace hb3 := hb3.keep hal11.kp
    replace hb8 := hb8.keep hal11.kp
    replace hle := hle.keep hal11.kp
    replace hls := hls.keep hal11.kp
    replace hM := hM.keep hal11.kp
    repeat refine zz ?_
    refine o_store1 (b := b11) (off := 0) rfl rfl rfl rfl rfl hb110 (by simp) ?_
    intro w13 hu13
    have hb11 : Blk w13 b11 43 [.map (some bm)] := hu13.blk
    have s13 := hu13.size
    replace hka := hka.upd hu13 (by omega)
    replace hb2 := hb2.upd hu13 (by omega)
    replace hb3 := hb3.upd hu13 (by omega)
    replace hb8 := hb8.upd hu13 (by omega)
    replace hle := hle.upd hu13 (fun hm => by have := mle _ hm; omega)
    replace hls := hls.upd hu13 (fun hm => by have := mls _ hm; omega)
    replace hM := hM.upd hu13 (by omega)
    clear hb110 hu13 hal11
    repeat refine zz ?_
    refine o_alloc rfl rfl ?_
    intro b0 w14 hal0
    have e0 := hal0.b_eq
    have s14 := hal0.size
    have hb00 := hal0.blk
    replace hka := hka.keep hal0.kp
    replace hb2 := hb2.keep hal0.kp
    replace hb3 := hb3.keep hal0.kp
    replace hb8 := hb8.keep hal0.kp
    replace hle := hle.keep hal0.kp
    replace hls := hls.keep hal0.kp
    replace hM := hM.keep hal0.kp
    replace hb11 := hb11.keep hal0.kp
    repeat refine zz ?_
    refine o_store1 (b := b0) (off := 0) rfl rfl rfl rfl rfl hb00 (by simp) ?_
    intro w15 hu15
    have hb0 : Blk w15 b0 3 [.int .i64 ((0 : Nat) : Int)] := hu15.blk
    have s15 := hu15.size
    replace hka := hka.upd hu15 (by omega)
    replace hb2 := hb2.upd hu15 (by omega)
    replace hb3 := hb3.upd hu15 (by omega)
    replace hb8 := hb8.upd hu15 (by omega)
    replace hle := hle.upd hu15 (fun hm => by have := mle _ hm; omega)
    replace hls := hls.upd hu15 (fun hm => by have := mls _ hm; omega)
    replace hM := hM.upd hu15 (by omega)
    replace hb11 := hb11.upd hu15 (by omega)
    clear hb00 hu15 hal0
    have a2 : b2 < bm := by omega
    have a3 : b3 < bm := by omega
    have a8 : b8 < bm := by omega
    have ale : ∀ c, c ∈ fe → c < bm := fun c hc => ple c hc
    have als : ∀ c, c ∈ hp → c < bm := fun c hc => hdl c hc
    have a11 : b11 = bm + 1 := by omega
    have a0 : b0 = bm + 2 := by omega
    have aw : w.heap.size ≤ b2 := by omega
    repeat refine zz ?_
    refine WL_pure rfl rfl (o_makeFunc rfl rfl) ?_
    repeat refine zz ?_
    refine W_cut [(2, .pointer (some ⟨b2, 0, none⟩)), (3, .pointer (some ⟨b3, 0, none⟩)), (6, ve), (11, .pointer (some ⟨b11, 0, none⟩)), (12, .pointer (some ⟨b0, 0, none⟩))] (fun w' => Keep w w' ∧ Blk w' b2 24 [.slice A nL cL] ∧ Blk w' b3 25 [.slice B nf cf_] ∧ Sl nodeR w' ve (lowE f) fe ∧ Blk w' b11 43 [.map (some bm)] ∧ Blk w' b0 3 [.int .i64 (endN L f : Int)] ∧ ∃ nm m, IMap w' bm nm m ∧ ∀ i : Nat, i < L.length → m (gi L (i : Int)).id = (cnt L f (endN L f) (i : Int) : Int)) ?_ ?_
    · rintro wd ⟨hkd, hb2, hb3, hle, hb11, hb0, nm, m, hM, hms⟩
      clear hka hls hb8
      generalize hE : endN L f = e at *
      have heL : e ≤ L.length := by rw [← hE]; unfold endN; exact endF_le _ _ _
      have hseen : seenI L f = pickI L (fun i => decide (0 < cnt L f e (i : Int))) L.length := by rw [← hE]; unfold seenI; rfl
      have l0 := hb0.lt
      repeat refine zz ?_
      refine o_buildSlice rfl rfl rfl rfl rfl (by intro p hp; cases hp) (by omega) ?_
      intro bO wO halO
      have hkO := halO.kp
      have zO := halO.b_eq
      have sO := halO.size
      have ho1 : OwnX itemR wO (b0 + 1) 45 (.slice (some ⟨bO, 0, none⟩) 0 0) [] := OwnX.made halO.blk (by omega)
      replace hkd := hkd.keep hkO
      replace hb2 := hb2.keep hkO
      replace hb3 := hb3.keep hkO
      replace hle := hle.keep hkO
      replace hb11 := hb11.keep hkO
      replace hb0 := hb0.keep hkO
      replace hM := hM.keep hkO
      have c2 := hb2.cell (i := 0) (v := .slice A nL cL) rfl
      clear halO
      repeat refine zz ?_
      refine W_loop (S := Nat × Value) (fun s => [(3, .pointer (some ⟨b3, 0, none⟩)), (6, ve), (11, .pointer (some ⟨b11, 0, none⟩)), (12, .pointer (some ⟨b0, 0, none⟩)), (16, s.2), (69, .slice A nL cL), (70, .int .i64 (nL : Int)), (71, .int .i64 (s.1 : Int))])
        (fun s w' => Keep w w' ∧ s.1 ≤ nL ∧ Blk w' b3 25 [.slice B nf cf_] ∧ Sl nodeR w' ve (lowE f) fe ∧ Blk w' b11 43 [.map (some bm)] ∧ Blk w' b0 3 [.int .i64 (e : Int)] ∧ IMap w' bm nm m ∧ OwnX itemR w' (b0 + 1) 45 s.2 (pickI L (fun i => decide (0 < cnt L f e (i : Int))) s.1)) (fun s => nL - s.1) (0, _)
        ⟨rfl, rfl, rfl, rfl, rfl, rfl, rfl, rfl, trivial⟩ ⟨hkd, Nat.zero_le _, hb3, hle, hb11, hb0, hM, ho1⟩ ?_
      clear ho1 hkO hkd hb2 hb3 hle hb11 hb0 hM c2
      rintro ⟨i, va⟩ we ⟨hka, hi, hb3, hle, hb11, hb0, hM, hoa⟩
      dsimp only at hi hoa ⊢
      have hLa := hL0.keep hka
      have hfa := hf0.keep hka
      have hza := hka.size_le
      have l0 := hb0.lt
      have hpl := pickI_len L (fun i => decide (0 < cnt L f e (i : Int))) i
      repeat refine zz ?_
      refine W_cond rfl (fun hc5 => ?_) (fun hc5 => ?_)
      · simp at hc5
        have hin : i < nL := by omega
        obtain ⟨hAi, u1, f1, hcell1, hu1, hsub1⟩ := item_get hLa (i := (i : Int)) (by omega) (by omega)
        have o1 := hu1.oneCell
        have hrow := fun c hc => (hoa.lt (b := c) hc)
        have hid := isItem_id (hit i (by omega))
        obtain ⟨A1, n1, c1, rfl, hn1⟩ := hu1.split
        repeat refine zz ?_
        refine o_alloc rfl rfl ?_
        intro bR wR halR
        have hbR0 := halR.blk
        repeat refine zz ?_
        refine o_storeS (b := bR) (off := 0) rfl rfl rfl rfl (by repeat (first | exact ones_nil | refine ones_cons (by first | rfl | assumption) ?_)) rfl hbR0 (by simp) ?_
        intro wS huS
        have hbR : Blk wS bR _ [.int .i64 (gi L (i : Int)).id, .slice A1 n1 c1] := huS.blk
        have hkS := halR.kp.upd huS (Nat.le_of_eq halR.b_eq.symm)
        have hRe := halR.b_eq
        clear hbR0 huS halR
        have hRz := hkS.size_le
        have ebR : we.heap.size ≤ bR := by omega
        replace hka := hka.keep hkS
        replace hb3 := hb3.keep hkS
        replace hle := hle.keep hkS
        replace hb11 := hb11.keep hkS
        replace hb0 := hb0.keep hkS
        replace hM := hM.keep hkS
        replace hoa := hoa.keep hkS
        replace hu1 := hu1.keep hkS
        have c11 := hb11.cell (i := 0) (v := .map (some bm)) rfl
        repeat refine zz ?_
        refine WL_pure rfl rfl (o_lookup rfl rfl hM (wf_small hid.1 (by omega))) ?_
        rw [hms i (by omega)]
        repeat refine zz ?_
        refine W_cond rfl (fun hc6 => ?_) (fun hc6 => ?_)
        · simp at hc6
          repeat refine zz ?_
          refine o_buildSlice rfl rfl rfl rfl rfl (by simp [Value.cells]) (by omega) ?_
          intro b8' w8 hal8
          have hb8' : Blk w8 b8' 45 [.int .i64 (gi L (i : Int)).id, .slice A1 n1 c1] := by simpa [Value.cells] using hal8.blk
          replace hka := hka.keep hal8.kp
          replace hb3 := hb3.keep hal8.kp
          replace hle := hle.keep hal8.kp
          replace hb11 := hb11.keep hal8.kp
          replace hb0 := hb0.keep hal8.kp
          replace hM := hM.keep hal8.kp
          replace hoa := hoa.keep hal8.kp
          replace hu1 := hu1.keep hal8.kp
          have z8 := hka.size_le
          have hdw := hu1.dom
          have sz8 := hal8.size
          have hbl8 := hb0.lt
          repeat refine zz ?_
          refine o_appX (R := itemR) (gi := f1) rfl rfl rfl rfl rfl (by decide) hoa (Blk.src (xs := [gi L (i : Int)]) hb8' (Rows.single (R := itemR) ⟨_, rfl, hu1⟩)) rfl hdw (fun c hc hm => by have := hd0 c (hsub1 c hm); have := (hrow c hc).1; omega) (by simp only [List.length_cons, List.length_nil]; omega) (by simp only [List.length_cons, List.length_nil]; omega) (by omega) ?_
          intro v9 w9 ho9 hg9 _
          repeat refine zz ?_
          exact ⟨(i + 1, v9), ⟨rfl, rfl, rfl, rfl, rfl, rfl, rfl, rfl, trivial⟩, ⟨hka.grown hg9 (fun c hc => by have := (hrow c hc).1; omega), by dsimp only; omega, hb3.grown hg9 (fun e => by have := (hrow _ e.symm).1; omega), hle.grownN hg9 (fun c hc hm => by have := (hrow c hc).1; have := ale c hm; omega), hb11.grown hg9 (fun e => by have := (hrow _ e.symm).1; omega), hb0.grown hg9 (fun e => by have := (hrow _ e.symm).1; omega), hM.grown hg9 (fun e => by have := (hrow _ e.symm).1; omega), by dsimp only; rw [pickI_t (by simpa using hc6)]; exact ho9⟩, by dsimp only; omega⟩
        · simp at hc6
          repeat refine zz ?_
          exact ⟨(i + 1, va), ⟨rfl, rfl, rfl, rfl, rfl, rfl, rfl, rfl, trivial⟩, ⟨hka, by dsimp only; omega, hb3, hle, hb11, hb0, hM, by dsimp only; rw [pickI_f (by simpa using hc6)]; exact hoa⟩, by dsimp only; omega⟩
      · simp at hc5
        have hin : i = L.length := by omega
        rw [hin, ← hseen] at hoa
        rw [hin, ← hseen] at hpl
        obtain ⟨fs, hss⟩ := hoa.sl (by decide)
        have hits := seen_item (p := fun i => decide (0 < cnt L f e (i : Int))) hit (Nat.le_refl L.length)
        rw [← hseen] at hits
        have hm : (e : Int) * (f.length : Int) ≤ 16 * 3 := Int.mul_le_mul (by omega) (by omega) (by omega) (by omega)
        have hm0 : 0 ≤ (e : Int) * (f.length : Int) := Int.mul_nonneg (by omega) (by omega)
        rw [← hlf] at hm hm0
        rw [← hlf]
        repeat refine zz ?_
        have hS := Keep.drew we
        refine W_draw (fun w' => Blk w' b0 3 [.int .i64 (e : Int)] ∧ Blk w' b3 25 [.slice B nf cf_]) (by kernel_rfl) ?_
        replace hka := hka.keep hS
        replace hb3 := hb3.keep hS
        replace hle := hle.keep hS
        replace hb0 := hb0.keep hS
        replace hss := hss.keep hS
        have hSb : Blk we.drew b0 3 [.int .i64 (e : Int)] ∧ Blk we.drew b3 25 [.slice B nf cf_] := ⟨hb0, hb3⟩
        have hzr := hka.size_le
        refine WD_take 0 rfl (by kernel_rfl) (by kernel_rfl) (by kernel_rfl) (by repeat (first | exact np_ret | refine np_then ?_ | refine np_in ?_)) rfl rfl (fun w' _ => o_move rfl) hSb ?_
        refine WD_take 1 rfl (by kernel_rfl) (by kernel_rfl) (by kernel_rfl) (by repeat (first | exact np_ret | refine np_then ?_ | refine np_in ?_)) rfl rfl (fun w' _ => o_move rfl) hSb ?_
        refine WD_take 3 rfl (by kernel_rfl) (by kernel_rfl) (by kernel_rfl) (by repeat (first | exact np_ret | refine np_then ?_ | refine np_in ?_)) rfl rfl (fun w' hw' => o_load rfl (hw'.1.cell (i := 0) rfl)) hSb ?_
        refine WD_take 4 rfl (by kernel_rfl) (by kernel_rfl) (by kernel_rfl) (by repeat (first | exact np_ret | refine np_then ?_ | refine np_in ?_)) rfl rfl (fun w' hw' => o_load rfl (hw'.2.cell (i := 0) rfl)) hSb ?_
        refine WD_take 5 rfl (by kernel_rfl) (by kernel_rfl) (by kernel_rfl) (by repeat (first | exact np_ret | refine np_then ?_ | refine np_in ?_)) rfl rfl (fun w' _ => o_len rfl) hSb ?_
        refine WD_take 6 rfl (by kernel_rfl) (by kernel_rfl) (by kernel_rfl) (by repeat (first | exact np_ret | refine np_then ?_ | refine np_in ?_)) rfl rfl (fun w' _ => o_mul rfl rfl (by omega)) hSb ?_
        refine WD_one 2 (by kernel_rfl) rfl ?_
        refine o_call rfl rfl rfl (best_ok hss hle (lowE_expr h1) hits (by omega)) ?_
        rintro vr wr ⟨kr, fr, hsr, hfr⟩
        replace hb0 := hb0.keep kr
        replace hb3 := hb3.keep kr
        refine WL_end ⟨⟨hb0, hb3⟩, ?_⟩
        have hSb : Blk wr b0 3 [.int .i64 (e : Int)] ∧ Blk wr b3 25 [.slice B nf cf_] := ⟨hb0, hb3⟩
        refine WD_take 7 rfl (by kernel_rfl) (by kernel_rfl) (by kernel_rfl) (by repeat (first | exact np_ret | refine np_then ?_ | refine np_in ?_)) rfl rfl (fun w' _ => o_assign rfl) hSb ?_
        refine WD_take 8 rfl (by kernel_rfl) (by kernel_rfl) (by kernel_rfl) (by repeat (first | exact np_ret | refine np_then ?_ | refine np_in ?_)) rfl rfl (fun w' _ => o_assign rfl) hSb ?_
        refine WD_done (by kernel_rfl) ?_
        repeat refine zz ?_
        exact ret2 rfl rfl rfl ⟨hka.keep kr, _, fr, rfl, hsr, hfr.mono hzr⟩
    · refine W_loop (S := Nat × Nat × (Int → Int)) (fun s => [(2, .pointer (some ⟨b2, 0, none⟩)), (3, .pointer (some ⟨b3, 0, none⟩)), (6, ve), (8, .pointer (some ⟨b8, 0, none⟩)), (11, .pointer (some ⟨b11, 0, none⟩)), (12, .pointer (some ⟨b0, 0, none⟩)), (13, .func (.func 24) ([] : List Value).toArray [Value.pointer (some ⟨b0, 0, none⟩), .pointer (some ⟨b2, 0, none⟩), .pointer (some ⟨b3, 0, none⟩), .pointer (some ⟨b11, 0, none⟩), .pointer (some ⟨b8, 0, none⟩)].toArray)])
        (fun s w' => Keep w w' ∧ s.1 ≤ nL ∧ Blk w' b2 24 [.slice A nL cL] ∧ Blk w' b3 25 [.slice B nf cf_] ∧ Blk w' b8 41 [.slice Ao no co] ∧ Sl nodeR w' ve (lowE f) fe ∧ Sl (slR itemR) w' (.slice Ao no co) (f.map (byF L)) hp ∧ Blk w' b11 43 [.map (some bm)] ∧ Blk w' b0 3 [.int .i64 (s.1 : Int)] ∧ IMap w' bm s.2.1 s.2.2 ∧ s.2.1 ≤ 3 * s.1 ∧ (∀ i : Nat, i < L.length → s.2.2 (gi L (i : Int)).id = (cnt L f s.1 (i : Int) : Int)) ∧ endF L f (L.length - s.1) = endN L f) (fun s => nL - s.1) (0, 0, fun _ => 0)
        ⟨rfl, rfl, rfl, rfl, rfl, rfl, rfl, trivial⟩ ⟨hka, Nat.zero_le _, hb2, hb3, hb8, hle, hls, hb11, hb0, hM, Nat.zero_le _, fun i hi => by unfold cnt; rw [cq_zero]; rfl, by unfold endN; rfl⟩ ?_
      clear hka hb2 hb3 hb8 hle hls hb11 hb0 hM
      rintro ⟨n, nm, m⟩ wb ⟨hkb, hn, hb2, hb3, hb8, hle, hls, hb11, hb0, hM, hnm, hms, hend⟩
      dsimp only at hn hb0 hM hnm hms hend ⊢
      repeat refine zz ?_
      refine o_callv (fi := []) rfl rfl rfl rfl (ended_ok (hL0.keep hkb) (hf0.keep hkb) hls hb0 hb2 hb3 hb11 hb8 hM (by omega) hms hit h1) ?_
      rintro _ wc ⟨rfl, kc⟩
      replace hkb := hkb.keep kc
      replace hb2 := hb2.keep kc
      replace hb3 := hb3.keep kc
      replace hb8 := hb8.keep kc
      replace hle := hle.keep kc
      replace hls := hls.keep kc
      replace hb11 := hb11.keep kc
      replace hb0 := hb0.keep kc
      replace hM := hM.keep kc
      cases hst : (decide (n = L.length) || stp L f n) with
      | true =>
        have he : endN L f = n := by
          rw [← hend]
          rcases Nat.lt_or_ge n L.length with h | h
          · rw [decide_eq_false (by omega), Bool.false_or] at hst
            exact endF_stop h hst
          · rw [show L.length - n = 0 by omega]; unfold endF; omega
        repeat refine zz ?_
        exact ⟨⟨rfl, rfl, rfl, rfl, rfl, trivial⟩, hkb, hb2, hb3, hle, hb11, by rw [he]; exact hb0, nm, m, hM, by rw [he]; exact hms⟩
      | false =>
        rw [Bool.or_eq_false_iff, decide_eq_false_iff_not] at hst
        have hnl : n < L.length := by omega
        have hgo := endF_go hnl hst.2
        have c8 := hb8.cell (i := 0) (v := .slice Ao no co) rfl
        repeat refine zz ?_
        refine W_loop (S := Nat × Nat × (Int → Int)) (fun s => [(2, .pointer (some ⟨b2, 0, none⟩)), (3, .pointer (some ⟨b3, 0, none⟩)), (6, ve), (8, .pointer (some ⟨b8, 0, none⟩)), (11, .pointer (some ⟨b11, 0, none⟩)), (12, .pointer (some ⟨b0, 0, none⟩)), (13, .func (.func 24) ([] : List Value).toArray [Value.pointer (some ⟨b0, 0, none⟩), .pointer (some ⟨b2, 0, none⟩), .pointer (some ⟨b3, 0, none⟩), .pointer (some ⟨b11, 0, none⟩), .pointer (some ⟨b8, 0, none⟩)].toArray), (53, .slice Ao no co), (54, .int .i64 (no : Int)), (55, .int .i64 (s.1 : Int))])
          (fun s w' => Keep w w' ∧ s.1 ≤ no ∧ Blk w' b2 24 [.slice A nL cL] ∧ Blk w' b3 25 [.slice B nf cf_] ∧ Blk w' b8 41 [.slice Ao no co] ∧ Sl nodeR w' ve (lowE f) fe ∧ Sl (slR itemR) w' (.slice Ao no co) (f.map (byF L)) hp ∧ Blk w' b11 43 [.map (some bm)] ∧ Blk w' b0 3 [.int .i64 (n : Int)] ∧ IMap w' bm s.2.1 s.2.2 ∧ s.2.1 ≤ 3 * n + s.1 ∧ (∀ i : Nat, i < L.length → s.2.2 (gi L (i : Int)).id = (cq L f n s.1 (i : Int) f.length : Int))) (fun s => no - s.1) (0, nm, m)
          ⟨rfl, rfl, rfl, rfl, rfl, rfl, rfl, rfl, rfl, rfl, trivial⟩ ⟨hkb, Nat.zero_le _, hb2, hb3, hb8, hle, hls, hb11, hb0, hM, hnm, fun i hi => by have := hms i hi; unfold cnt at this; exact this⟩ ?_
        clear hkb hb2 hb3 hb8 hle hls hb11 hb0 hM hnm hms c8 kc
        rintro ⟨j, nm, m⟩ wd ⟨hkd, hj, hb2, hb3, hb8, hle, hls, hb11, hb0, hM, hnm, hms⟩
        dsimp only at hj hM hnm hms ⊢
        repeat refine zz ?_
        refine W_cond rfl (fun hc4 => ?_) (fun hc4 => ?_)
        · simp at hc4
          have hjn : j < no := by omega
          have hjf : j < f.length := by omega
          obtain ⟨hA1, u1, f1, hcl1, hu1, _⟩ := is_get hls (i := (j : Int)) (by omega) (by omega)
          rw [gi_map_byF hjf] at hu1
          obtain ⟨A1, n1, c1, rfl, hn1⟩ := hu1.split
          rw [byF_len] at hn1
          obtain ⟨hA11, u2, f2, hcell2, hu2, _⟩ := item_get hu1 (i := (n : Int)) (by omega) (by omega)
          have hok := ord_at (L := L) (k := gi f (j : Int)) hnl
          obtain ⟨p, hp'⟩ : ∃ p : Nat, gi (ordL L (gi f (j : Int))) (n : Int) = (p : Int) := ⟨(gi (ordL L (gi f (j : Int))) (n : Int)).toNat, by omega⟩
          rw [byF_at hnl, hp'] at hcell2
          have hpL : p < L.length := by omega
          have hid := isItem_id (hit p hpL)
          have hcb := cq_le L f n j (p : Int) f.length
          have hmp := hms p hpL
          have c11 := hb11.cell (i := 0) (v := .map (some bm)) rfl
          have c0 := hb0.cell (i := 0) (v := .int .i64 (n : Int)) rfl
          repeat refine zz ?_
          have hS : Keep wd (World.drew wd) := Keep.drew wd
          refine W_late (Keep wd) [8] (by kernel_rfl) (Keep.drew wd) ?_
          first|refine e_o 0 ?_|refine e_a 0 ?_|refine e_s 0 ?_|refine e_n 0 ?_|refine e_i 0 ?_|refine e_f 0 ?_|refine e_b 0 ?_|refine e_d 0 ?_|refine e_l1 0 ?_|refine e_l2 0 ?_|refine e_l3 0 ?_|refine e_l4 0 ?_|refine e_l5 0 ?_|refine e_l6 0 ?_|refine e_l7 0 ?_|refine e_l8 0 ?_|refine e_l9 0 ?_|refine e_g 0 ?_|refine e_q 0 ?_|refine e_e 0 ?_|refine e_j 0 ?_
          first|refine e_o 1 ?_|refine e_a 1 ?_|refine e_s 1 ?_|refine e_n 1 ?_|refine e_i 1 ?_|refine e_f 1 ?_|refine e_b 1 ?_|refine e_d 1 ?_|refine e_l1 1 ?_|refine e_l2 1 ?_|refine e_l3 1 ?_|refine e_l4 1 ?_|refine e_l5 1 ?_|refine e_l6 1 ?_|refine e_l7 1 ?_|refine e_l8 1 ?_|refine e_l9 1 ?_|refine e_g 1 ?_|refine e_q 1 ?_|refine e_e 1 ?_|refine e_j 1 ?_
          first|refine e_o 2 ?_|refine e_a 2 ?_|refine e_s 2 ?_|refine e_n 2 ?_|refine e_i 2 ?_|refine e_f 2 ?_|refine e_b 2 ?_|refine e_d 2 ?_|refine e_l1 2 ?_|refine e_l2 2 ?_|refine e_l3 2 ?_|refine e_l4 2 ?_|refine e_l5 2 ?_|refine e_l6 2 ?_|refine e_l7 2 ?_|refine e_l8 2 ?_|refine e_l9 2 ?_|refine e_g 2 ?_|refine e_q 2 ?_|refine e_e 2 ?_|refine e_j 2 ?_
          first|refine e_o 3 ?_|refine e_a 3 ?_|refine e_s 3 ?_|refine e_n 3 ?_|refine e_i 3 ?_|refine e_f 3 ?_|refine e_b 3 ?_|refine e_d 3 ?_|refine e_l1 3 ?_|refine e_l2 3 ?_|refine e_l3 3 ?_|refine e_l4 3 ?_|refine e_l5 3 ?_|refine e_l6 3 ?_|refine e_l7 3 ?_|refine e_l8 3 ?_|refine e_l9 3 ?_|refine e_g 3 ?_|refine e_q 3 ?_|refine e_e 3 ?_|refine e_j 3 ?_
          first|refine e_o 4 ?_|refine e_a 4 ?_|refine e_s 4 ?_|refine e_n 4 ?_|refine e_i 4 ?_|refine e_f 4 ?_|refine e_b 4 ?_|refine e_d 4 ?_|refine e_l1 4 ?_|refine e_l2 4 ?_|refine e_l3 4 ?_|refine e_l4 4 ?_|refine e_l5 4 ?_|refine e_l6 4 ?_|refine e_l7 4 ?_|refine e_l8 4 ?_|refine e_l9 4 ?_|refine e_g 4 ?_|refine e_q 4 ?_|refine e_e 4 ?_|refine e_j 4 ?_
          first|refine e_o 5 ?_|refine e_a 5 ?_|refine e_s 5 ?_|refine e_n 5 ?_|refine e_i 5 ?_|refine e_f 5 ?_|refine e_b 5 ?_|refine e_d 5 ?_|refine e_l1 5 ?_|refine e_l2 5 ?_|refine e_l3 5 ?_|refine e_l4 5 ?_|refine e_l5 5 ?_|refine e_l6 5 ?_|refine e_l7 5 ?_|refine e_l8 5 ?_|refine e_l9 5 ?_|refine e_g 5 ?_|refine e_q 5 ?_|refine e_e 5 ?_|refine e_j 5 ?_
          refine WE_take 6 40 rfl (by kernel_rfl) (by kernel_rfl) (by kernel_rfl) (by kernel_rfl) (by kernel_rfl) (by repeat (first | exact np_ret | refine np_then ?_ | refine np_in ?_)) rfl rfl (fun w' hw' => o_lookup rfl rfl (hM.keep hw') (wf_small hid.1 (by omega))) ?_
          first|refine e_o 7 ?_|refine e_a 7 ?_|refine e_s 7 ?_|refine e_n 7 ?_|refine e_i 7 ?_|refine e_f 7 ?_|refine e_b 7 ?_|refine e_d 7 ?_|refine e_l1 7 ?_|refine e_l2 7 ?_|refine e_l3 7 ?_|refine e_l4 7 ?_|refine e_l5 7 ?_|refine e_l6 7 ?_|refine e_l7 7 ?_|refine e_l8 7 ?_|refine e_l9 7 ?_|refine e_g 7 ?_|refine e_q 7 ?_|refine e_e 7 ?_|refine e_j 7 ?_
          refine WE_last 8 (by kernel_rfl) rfl (by kernel_rfl) ?_
          replace hkd := hkd.keep hS
          replace hb2 := hb2.keep hS
          replace hb3 := hb3.keep hS
          replace hb8 := hb8.keep hS
          replace hle := hle.keep hS
          replace hls := hls.keep hS
          replace hb11 := hb11.keep hS
          replace hb0 := hb0.keep hS
          replace hM := hM.keep hS
          refine o_mapUpdate rfl rfl rfl rfl hM (wf_small hid.1 (by omega)) (wf_small (by omega) (by omega)) (by simp only [maxLen]; omega) ?_
          intro wf hMf hgf
          refine WL_end ?_
          refine WE_done (by kernel_rfl) ?_
          repeat refine zz ?_
          exact ⟨(j + 1, nm + 1, _), ⟨rfl, rfl, rfl, rfl, rfl, rfl, rfl, rfl, rfl, rfl, trivial⟩, ⟨hkd.grown hgf (fun c hc => by simp only [Option.some.injEq] at hc; omega), by dsimp only; omega, hb2.grown hgf (fun e => by simp only [Option.some.injEq] at e; omega), hb3.grown hgf (fun e => by simp only [Option.some.injEq] at e; omega), hb8.grown hgf (fun e => by simp only [Option.some.injEq] at e; omega), hle.grownN hgf (fun c hc hm => by simp only [Option.some.injEq] at hc; have := ale c hm; omega), hls.grownN hgf (fun c hc hm => by simp only [Option.some.injEq] at hc; have := als c hm; omega), hb11.grown hgf (fun e => by simp only [Option.some.injEq] at e; omega), hb0.grown hgf (fun e => by simp only [Option.some.injEq] at e; omega), hMf, by dsimp only; omega, mcq_put h2 hnl hjf hpL hp' hms⟩, by dsimp only; omega⟩
        · simp at hc4
          have hjn : j = f.length := by omega
          have c0 := hb0.cell (i := 0) (v := .int .i64 (n : Int)) rfl
          repeat refine zz ?_
          refine o_store1 (b := b0) (off := 0) rfl rfl rfl rfl rfl hb0 (by simp) ?_
          intro we hue
          have hb0e : Blk we b0 3 [.int .i64 ((n + 1 : Nat) : Int)] := by have := hue.blk; simpa using this
          repeat refine zz ?_
          exact ⟨(n + 1, nm, m), ⟨rfl, rfl, rfl, rfl, rfl, rfl, rfl, trivial⟩, ⟨hkd.upd hue (by omega), by dsimp only; omega, hb2.upd hue (by omega), hb3.upd hue (by omega), hb8.upd hue (by omega), hle.upd hue (fun hm => by have := ale _ hm; omega), hls.upd hue (fun hm => by have := als _ hm; omega), hb11.upd hue (by omega), hb0e, hM.upd hue (by omega), by dsimp only; omega, fun i hi => by dsimp only; rw [hms i hi, hjn, cnt_next], by dsimp only; rw [hgo]; exact hend⟩, by dsimp only; omega⟩
end Go.E

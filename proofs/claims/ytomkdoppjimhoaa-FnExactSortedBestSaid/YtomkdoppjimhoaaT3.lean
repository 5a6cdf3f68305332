/-
  Contracts: the items found by sorted access, by the reference. Conditions: as stated.
-/
import Derived.Test.YtomkdoppjimhoaaT2
import Derived.Test.YtomkdoppjimhoaaOx
import Derived.Test.YtomkdoppjimhoaaCu
set_option linter.unusedVariables false
set_option linter.unusedSimpArgs false
namespace Go.E
open Go Go.RowKit Go.Proofs
theorem cnt_next {L : List Itm} {f : List Int} {n : Nat} (i : Int) : cq L f n f.length i f.length = cnt L f (n + 1) i := by unfold cnt; exact cq_end i _ (Nat.le_refl _)
theorem cq_put {L : List Itm} {f cs : List Int} {n j p : Nat} (hn : n < L.length) (hj : j < f.length) (hp : gi (ordL L (gi f (j : Int))) (n : Int) = (p : Int)) (hcl : cs.length = L.length)
    (hcs : ∀ i : Nat, i < L.length → gi cs (i : Int) = (cq L f n j (i : Int) f.length : Int)) : ∀ i : Nat, i < L.length → gi (cs.set p (gi cs (p : Int) + 1)) (i : Int) = (cq L f n (j + 1) (i : Int) f.length : Int) := by
  intro i hi
  have hs := cq_step (L := L) (f := f) (n := n) (j := j) hn (i : Int) f.length
  rw [gi_lt (by rw [List.length_set]; omega), List.getElem_set]
  by_cases he : p = i
  · subst he
    rw [if_pos rfl, hs, if_pos ⟨hj, hp.symm⟩, hcs p hi]; omega
  · rw [if_neg he, hs, if_neg (fun e => he (by have := e.2; rw [hp] at this; omega)), ← gi_lt (by omega), hcs i hi]; omega
theorem map_set_int {cs : List Int} {p : Nat} {v : Int} : (cs.map (Value.int .i64)).set p (.int .i64 v) = (cs.set p v).map (Value.int .i64) := by rw [List.map_set]
theorem blk_int {w : World} {b : Nat} {t : TypeId} {cs : List Int} (h : Blk w b t (cs.map (Value.int .i64))) {n c : Nat} (hn : n = cs.length) (hlc : n ≤ c) (hcm : c ≤ 9223372036854775807 := by omega) : Sl intR w (.slice (some ⟨b, 0, none⟩) n c) cs [b] :=
  Sl.ofInts h (fun i hi => by rw [List.getElem?_map, List.getElem?_eq_getElem hi, gi_lt hi]; rfl) hn hlc hcm
theorem zeros_int : ∀ {zs : List Value}, (∀ u, u ∈ zs → u ∈ [Value.int .i64 0]) → zs = (List.replicate zs.length (0 : Int)).map (Value.int .i64)
  | [], _ => rfl
  | z :: r, h => by
    have h1 := h z (by simp)
    rw [List.mem_singleton] at h1
    rw [List.length_cons, List.replicate_succ, List.map_cons, ← zeros_int (zs := r) fun u hu => h u (List.mem_cons_of_mem _ hu), h1]
theorem seen_item {L : List Itm} {p : Nat → Bool} (hit : ∀ i : Nat, i < L.length → isItem (gi L (i : Int)) = true) {n : Nat} (hn : n ≤ L.length) : ∀ i : Nat, i < (pickI L p n).length → isItem (gi (pickI L p n) (i : Int)) = true := fun i hi => by
  obtain ⟨j, h1, _, h3⟩ := (pickI_mem n).1 (gi_mem hi)
  rw [h3]; exact hit j (by omega)
attribute [local irreducible] W WL WD WE thenE inE retQ PureOp Keep Cell Cells Blk Sl Rows Own Src Fresh
attribute [local irreducible] ordL byF cnt cq seenI endN stp lowE bestL isFieldList areItems endF

set_option maxHeartbeats 4000000 in
theorem spec_SortedBest_ok {w : World} {v u : Value} {L : List Itm} {f : List Int} {fp gp : List Nat} (hL : Sl itemR w v L fp) (hf : Sl intR w u f gp) :
    Run Try.prog 36 [v, u] w (fun r w' => Keep w w' ∧ ∃ x h, r = .tuple #[x, .int .i64 (sortedBest L f).2] ∧ Sl intR w' x (sortedBest L f).1 h ∧ Fresh w.heap.size w' h) := by
  have hnL := hL.le
  have hnf := hf.le
  obtain ⟨A, nL, cL, rfl, hlL⟩ := hL.split
  obtain ⟨B, nf, cf_, rfl, hlf⟩ := hf.split
  have hL0 := hL
  have hf0 := hf
  refine Run_intro Try.func36 (by unfold CallOk; kernel_rfl) rfl Try.ntmps36 (Nat.le_of_ble_eq_true rfl) ?_
  simp only [penv, Nat.reduceAdd, Nat.zero_add]
  repeat refine zz ?_
  refine o_call rfl rfl rfl (spec_AreItems_ok hL) ?_
  rintro _ w1 ⟨rfl, hk⟩
  replace hL := hL.keep hk
  replace hf := hf.keep hk
  repeat refine zz ?_
  refine WL_part rfl rfl (fun h1 => ?_) (fun h1 => ?_)
  · simp at h1
    have hsb : sortedBest L f = ([], 0) := by unfold sortedBest; rw [h1]; rfl
    repeat refine zz ?_
    refine o_buildSlice rfl rfl rfl rfl rfl (by intro p hp; cases hp) (by omega) ?_
    intro bO wO halO
    have hkO := halO.kp
    have ho : OwnF intR wO w.heap.size 3 (.slice (some ⟨bO, 0, none⟩) 0 0) [] [] := OwnF.made halO.blk (by have := halO.b_eq; have := hk.size_le; omega)
    obtain ⟨fO, hsO, hfO⟩ := ho.sl (by decide)
    repeat refine zz ?_
    exact ret2 rfl rfl rfl ⟨hk.keep hkO, _, fO, by rw [hsb], by rw [hsb]; exact hsO, hfO⟩
  simp at h1
  repeat refine zz ?_
  refine o_call rfl rfl rfl (spec_IsFieldList_ok hf) ?_
  rintro _ w2 ⟨rfl, k2⟩
  replace hL := hL.keep k2
  replace hf := hf.keep k2
  replace hk := hk.keep k2
  repeat refine zz ?_
  refine W_cond rfl (fun h2 => ?_) (fun h2 => ?_)
  · simp at h2
    have hsb : sortedBest L f = ([], 0) := by unfold sortedBest; rw [h2, Bool.and_false]; rfl
    repeat refine zz ?_
    refine o_buildSlice rfl rfl rfl rfl rfl (by intro p hp; cases hp) (by omega) ?_
    intro bO wO halO
    have hkO := halO.kp
    have ho : OwnF intR wO w.heap.size 3 (.slice (some ⟨bO, 0, none⟩) 0 0) [] [] := OwnF.made halO.blk (by have := halO.b_eq; have := hk.size_le; omega)
    obtain ⟨fO, hsO, hfO⟩ := ho.sl (by decide)
    repeat refine zz ?_
    exact ret2 rfl rfl rfl ⟨hk.keep hkO, _, fO, by rw [hsb], by rw [hsb]; exact hsO, hfO⟩
  simp at h2
  have hsb : sortedBest L f = (bestL (seenI L f) (lowE f), (endN L f : Int) * f.length) := by unfold sortedBest; rw [h1, h2]; rfl
  rw [hsb]
  dsimp only
  have hf3 := fieldList_len h2
  obtain ⟨hit, hl16⟩ := areItems_at h1
  have hv3 : ∀ i, i < L.length → (gi L (i : Int)).vals.length = 3 := fun i hi => isItem_len (hit i hi)
  repeat refine zz ?_
  refine o_buildSlice rfl rfl rfl rfl rfl (by intro p hp; cases hp) (by omega) ?_
  intro bO wO halO
  have hkO := halO.kp
  have zO := halO.b_eq
  have sO := halO.size
  have s1 := hk.size_le
  have ho1 : OwnF (slR intR) wO w.heap.size 53 (.slice (some ⟨bO, 0, none⟩) 0 0) [] [] := OwnF.made halO.blk (by omega)
  replace hk := hk.keep hkO
  repeat refine zz ?_
  refine W_loop (S := Nat × Value) (fun s => [(0, .slice A nL cL), (1, .slice B nf cf_), (6, s.2), (7, .int .i64 (s.1 : Int))]) (fun s w' => Keep w w' ∧ s.1 ≤ nf ∧ ∃ fi, OwnF (slR intR) w' w.heap.size 53 s.2 ((f.map (ordL L)).take s.1) fi) (fun s => nf - s.1) (0, _) ⟨rfl, rfl, rfl, rfl, trivial⟩ ⟨hk, Nat.zero_le _, [], by simpa using ho1⟩ ?_
  clear ho1 hkO halO
  rintro ⟨k, va⟩ wa ⟨hka, hk, fi, hoa⟩
  dsimp only at hk hoa ⊢
  have hLa := hL0.keep hka
  have hfa := hf0.keep hka
  have hza := hka.size_le
  repeat refine zz ?_
  refine W_cond rfl (fun hc => ?_) (fun hc => ?_)
  · simp at hc
    have hkf : k < nf := by omega
    have hfk := field_at h2 (k := k) (by omega)
    obtain ⟨hB, hcf⟩ := hfa.getI (i := (k : Int)) (by omega) (by omega)
    have hlk : ((f.map (ordL L)).take k).length ≤ 3 := by rw [List.length_take, List.length_map]; omega
    repeat refine zz ?_
    refine o_call rfl rfl rfl (l9Order_ok hLa hl16 hv3 hfk) ?_
    rintro vo wo ⟨ko, fo, hso, hfo⟩
    have eo : sortP (fun i => fval (gi f (k : Int)) (gi L i)) (iota 0 L.length) = ordL L (gi f (k : Int)) := by unfold ordL; rfl
    rw [eo] at hso
    have hdm := hoa.fresh.dom
    have hown := fun c hc => (hoa.lt (b := c) hc).2
    have hrow := fun c hc => (hoa.lt (b := c) hc).1
    replace hka := hka.keep ko
    replace hoa := hoa.keep ko
    have oo := hso.oneCell
    obtain ⟨Ao, no, co, rfl, hno⟩ := hso.split
    repeat refine zz ?_
    refine o_buildSlice rfl rfl rfl rfl rfl (by simp [Value.cells]) (by omega) ?_
    intro b8 w8 hal8
    have hb8 : Blk w8 b8 53 [.slice Ao no co] := by simpa [Value.cells] using hal8.blk
    replace hka := hka.keep hal8.kp
    replace hoa := hoa.keep hal8.kp
    replace hso := hso.keep hal8.kp
    replace hfo := hfo.keep hal8.kp
    have z8 := hka.size_le
    repeat refine zz ?_
    refine o_appendF (R := slR intR) (M := wa.heap.size) (gi := fo) rfl rfl rfl rfl rfl (by decide) hoa (Blk.src (xs := [ordL L (gi f (k : Int))]) hb8 (Rows.single (R := slR intR) ⟨_, rfl, hso⟩)) rfl (hfo.mono hza) hdm hown (fun b hb => hfo.ge hb) (by simp only [List.length_cons, List.length_nil]; omega) (by simp only [List.length_cons, List.length_nil]; omega) (by omega) ?_
    intro v9 w9 ho9 hb9 hg9
    replace hka := hka.grown hg9 hrow
    repeat refine zz ?_
    exact ⟨(k + 1, v9), ⟨rfl, rfl, rfl, rfl, trivial⟩, ⟨hka, by dsimp only; omega, _, by dsimp only; rw [take_gi (by rw [List.length_map]; omega), gi_map_ord (by omega)]; exact ho9⟩, by dsimp only; omega⟩
  · simp at hc
    have hkn : k = nf := by omega
    have etk : (f.map (ordL L)).take k = f.map (ordL L) := List.take_of_length_le (by rw [List.length_map]; omega)
    rw [etk] at hoa
    obtain ⟨fl, hls, hfl⟩ := hoa.sl (by decide)
    have hdl := hls.dom
    obtain ⟨Al, nl, cl, rfl, hll⟩ := hls.split
    rw [List.length_map] at hll
    clear hoa etk hLa hfa
    repeat refine zz ?_
    refine o_makeSlice (l := nL) (c := nL) rfl rfl rfl rfl (Nat.le_refl _) (by omega) (by omega) ?_
    intro bC wC zs halC hzl hz0
    have hbC := halC.blk
    have eC := halC.b_eq
    have sC := halC.size
    replace hka := hka.keep halC.kp
    replace hls := hls.keep halC.kp
    have hwC : w.heap.size ≤ bC := by omega
    have hbl : bC ∉ fl := fun hm => by have := hdl _ hm; omega
    rw [zeros_int hz0, hzl, Nat.mul_one] at hbC
    repeat refine zz ?_
    refine W_cut [(0, .slice A nL cL), (1, .slice B nf cf_), (8, .slice (some ⟨bC, 0, none⟩) nL nL), (9, .int .i64 (endN L f : Int))] (fun w' => Keep w w' ∧ ∃ cs : List Int, Blk w' bC 3 (cs.map (Value.int .i64)) ∧ cs.length = nL ∧ ∀ i : Nat, i < nL → gi cs (i : Int) = (cnt L f (endN L f) (i : Int) : Int)) ?_ ?_
    · rintro wd ⟨hkd, cs, hbd, hcl, hcs⟩
      clear hka hls hbC
      generalize hE : endN L f = e at *
      have heL : e ≤ L.length := by rw [← hE]; unfold endN; exact endF_le _ _ _
      have hseen : seenI L f = pickI L (fun i => decide (0 < cnt L f e (i : Int))) L.length := by rw [← hE]; unfold seenI; rfl
      repeat refine zz ?_
      refine o_buildSlice rfl rfl rfl rfl rfl (by intro p hp; cases hp) (by omega) ?_
      intro bO wO halO
      have hkO := halO.kp
      have zO := halO.b_eq
      have sO := halO.size
      have sd := hkd.size_le
      have ho1 : OwnX itemR wO (bC + 1) 90 (.slice (some ⟨bO, 0, none⟩) 0 0) [] := OwnX.made halO.blk (by have := hbd.lt; omega)
      have hbO := hbd.keep hkO
      replace hkd := hkd.keep hkO
      repeat refine zz ?_
      refine W_loop (S := Nat × Value) (fun s => [(0, .slice A nL cL), (1, .slice B nf cf_), (8, .slice (some ⟨bC, 0, none⟩) nL nL), (9, .int .i64 (e : Int)), (11, s.2), (12, .int .i64 (s.1 : Int))]) (fun s w' => Keep w w' ∧ s.1 ≤ nL ∧ Blk w' bC 3 (cs.map (Value.int .i64)) ∧ OwnX itemR w' (bC + 1) 90 s.2 (pickI L (fun i => decide (0 < cnt L f e (i : Int))) s.1)) (fun s => nL - s.1) (0, _) ⟨rfl, rfl, rfl, rfl, rfl, rfl, trivial⟩ ⟨hkd, Nat.zero_le _, hbO, ho1⟩ ?_
      clear ho1 hkO halO hbO hbd hkd
      rintro ⟨i, va⟩ wa ⟨hka, hi, hba, hoa⟩
      dsimp only at hi hoa ⊢
      have hLa := hL0.keep hka
      have hfa := hf0.keep hka
      have hza := hka.size_le
      have hsc := blk_int hba (n := nL) (c := nL) (by omega) (Nat.le_refl _)
      have hpl := pickI_len L (fun i => decide (0 < cnt L f e (i : Int))) i
      repeat refine zz ?_
      refine W_cond rfl (fun hc5 => ?_) (fun hc5 => ?_)
      · simp at hc5
        have hin : i < nL := by omega
        obtain ⟨hA, hce⟩ := hsc.getI (i := (i : Int)) (by omega) (by omega)
        rw [hcs i hin] at hce
        repeat refine zz ?_
        refine W_cond rfl (fun hc6 => ?_) (fun hc6 => ?_)
        · simp at hc6
          obtain ⟨hAi, u1, f1, hcell1, hu1, hsub1⟩ := item_get hLa (i := (i : Int)) (by omega) (by omega)
          have o1 := hu1.oneCell
          have hd1 := hL0.dom
          have hrow := fun c hc => (hoa.lt (b := c) hc)
          obtain ⟨A1, n1, c1, rfl, hn1⟩ := hu1.split
          repeat refine zz ?_
          refine o_buildSlice rfl rfl rfl rfl rfl (by simp [Value.cells]) (by omega) ?_
          intro b8 w8 hal8
          have hb8 : Blk w8 b8 90 [.int .i64 (gi L (i : Int)).id, .slice A1 n1 c1] := by simpa [Value.cells] using hal8.blk
          replace hka := hka.keep hal8.kp
          replace hoa := hoa.keep hal8.kp
          replace hu1 := hu1.keep hal8.kp
          replace hba := hba.keep hal8.kp
          have z8 := hka.size_le
          have hdw := hu1.dom
          have sz8 := hal8.size
          have hbl8 := hba.lt
          repeat refine zz ?_
          refine o_appX (R := itemR) (gi := f1) rfl rfl rfl rfl rfl (by decide) hoa (Blk.src (xs := [gi L (i : Int)]) hb8 (Rows.single (R := itemR) ⟨_, rfl, hu1⟩)) rfl hdw (fun c hc hm => by have := hd1 c (hsub1 c hm); have := (hrow c hc).1; omega) (by simp only [List.length_cons, List.length_nil]; omega) (by simp only [List.length_cons, List.length_nil]; omega) (by omega) ?_
          intro v9 w9 ho9 hg9 _
          have hba9 := hba.grown hg9 (fun e => by have := (hrow _ e.symm).1; have := hrow _ e.symm; omega)
          replace hka := hka.grown hg9 (fun c hc => by have := (hrow c hc).1; omega)
          repeat refine zz ?_
          exact ⟨(i + 1, v9), ⟨rfl, rfl, rfl, rfl, rfl, rfl, trivial⟩, ⟨hka, by dsimp only; omega, hba9, by dsimp only; rw [pickI_t (by simpa using hc6)]; exact ho9⟩, by dsimp only; omega⟩
        · simp at hc6
          repeat refine zz ?_
          exact ⟨(i + 1, va), ⟨rfl, rfl, rfl, rfl, rfl, rfl, trivial⟩, ⟨hka, by dsimp only; omega, hba, by dsimp only; rw [pickI_f (by simpa using hc6)]; exact hoa⟩, by dsimp only; omega⟩
      · simp at hc5
        have hin : i = L.length := by omega
        rw [hin, ← hseen] at hoa
        rw [hin, ← hseen] at hpl
        obtain ⟨fs, hss⟩ := hoa.sl (by decide)
        have hits := seen_item (p := fun i => decide (0 < cnt L f e (i : Int))) hit (Nat.le_refl L.length)
        rw [← hseen] at hits
        repeat refine zz ?_
        refine o_call rfl rfl rfl (spec_LowExpression_ok hfa) ?_
        rintro _ wb ⟨kb, ve, fe, rfl, hle, _⟩
        replace hss := hss.keep kb
        replace hka := hka.keep kb
        repeat refine zz ?_
        refine o_call rfl rfl rfl (l7Best_ok hss hle (lowE_expr h2) hits (by omega)) ?_
        rintro vr wr ⟨kr, fr, hsr, hfr⟩
        have hm : (e : Int) * (f.length : Int) ≤ 16 * 3 := Int.mul_le_mul (by omega) (by omega) (by omega) (by omega)
        have hm0 : 0 ≤ (e : Int) * (f.length : Int) := Int.mul_nonneg (by omega) (by omega)
        have hzr := hka.size_le
        rw [← hlf] at hm hm0
        rw [← hlf]
        repeat refine zz ?_
        refine WL_pure rfl rfl (o_mul rfl rfl (by omega)) ?_
        repeat refine zz ?_
        exact ret2 rfl rfl rfl ⟨hka.keep kr, _, fr, rfl, hsr, hfr.mono (by omega)⟩
    · refine W_loop (S := Nat × List Int) (fun s => [(0, .slice A nL cL), (1, .slice B nf cf_), (6, .slice Al nl cl), (8, .slice (some ⟨bC, 0, none⟩) nL nL), (9, .int .i64 (s.1 : Int))]) (fun s w' => Keep w w' ∧ s.1 ≤ nL ∧ Sl (slR intR) w' (.slice Al nl cl) (f.map (ordL L)) fl ∧ Blk w' bC 3 (s.2.map (Value.int .i64)) ∧ s.2.length = nL ∧ (∀ i : Nat, i < nL → gi s.2 (i : Int) = (cnt L f s.1 (i : Int) : Int)) ∧ endF L f (L.length - s.1) = endN L f) (fun s => nL - s.1) (0, List.replicate nL 0) ⟨rfl, rfl, rfl, rfl, rfl, trivial⟩ ⟨hka, Nat.zero_le _, hls, hbC, by simp, fun i hi => by rw [gi_lt (by simpa using hi)]; unfold cnt; rw [cq_zero]; simp, by unfold endN; rfl⟩ ?_
      clear hka hls hbC
      rintro ⟨n, cs⟩ wb ⟨hkb, hn, hlb, hbb, hcl, hcs, hend⟩
      dsimp only at hn hlb hbb hcl hcs hend ⊢
      have hLb := hL0.keep hkb
      have hfb := hf0.keep hkb
      have hsc := blk_int hbb (n := nL) (c := nL) (by omega) (Nat.le_refl _)
      repeat refine zz ?_
      refine WL_part rfl rfl (fun hq => ?_) (fun hq => ?_)
      · simp at hq
        have hnl : n < nL := by omega
        repeat refine zz ?_
        refine o_call rfl rfl rfl (l9Stop_ok hLb hfb hlb hsc (by omega) (by omega) (fun i hi => hcs i (by omega)) hit h2) ?_
        rintro _ wc ⟨rfl, kc⟩
        replace hkb := hkb.keep kc
        replace hlb := hlb.keep kc
        replace hbb := hbb.keep kc
        cases hst : stp L f n with
        | true =>
          have he : endN L f = n := by rw [← hend]; exact endF_stop (by omega) hst
          repeat refine zz ?_
          exact ⟨⟨rfl, rfl, rfl, by rw [he]; rfl, trivial⟩, hkb, cs, hbb, hcl, by rw [he]; exact hcs⟩
        | false =>
          have hgo := endF_go (by omega : n < L.length) hst
          repeat refine zz ?_
          refine W_loop (S := Nat × List Int) (fun s => [(0, .slice A nL cL), (1, .slice B nf cf_), (6, .slice Al nl cl), (8, .slice (some ⟨bC, 0, none⟩) nL nL), (9, .int .i64 (n : Int)), (10, .int .i64 (s.1 : Int))]) (fun s w' => Keep w w' ∧ s.1 ≤ nf ∧ Sl (slR intR) w' (.slice Al nl cl) (f.map (ordL L)) fl ∧ Blk w' bC 3 (s.2.map (Value.int .i64)) ∧ s.2.length = nL ∧ (∀ i : Nat, i < nL → gi s.2 (i : Int) = (cq L f n s.1 (i : Int) f.length : Int))) (fun s => nf - s.1) (0, cs) ⟨rfl, rfl, rfl, rfl, rfl, rfl, trivial⟩ ⟨hkb, Nat.zero_le _, hlb, hbb, hcl, fun i hi => by have := hcs i hi; unfold cnt at this; exact this⟩ ?_
          clear hkb hlb hbb hcl hcs hsc hLb hfb kc
          rintro ⟨j, ds⟩ we ⟨hke, hj, hle, hbe, hdl', hds⟩
          dsimp only at hj hle hbe hdl' hds ⊢
          repeat refine zz ?_
          refine W_cond rfl (fun hc4 => ?_) (fun hc4 => ?_)
          · simp at hc4
            have hjf : j < nf := by omega
            obtain ⟨hA1, u1, f1, hcl1, hu1, _⟩ := slR_get hle (i := (j : Int)) (by omega) (by omega)
            rw [gi_map_ord (by omega)] at hu1
            obtain ⟨A1, n1, c1, rfl, hn1⟩ := hu1.split
            rw [ordL_len] at hn1
            obtain ⟨hA11, hc11⟩ := hu1.getI (i := (n : Int)) (by omega) (by omega)
            have hok := ord_at (L := L) (k := gi f (j : Int)) (n := n) (by omega)
            obtain ⟨p, hp⟩ : ∃ p : Nat, gi (ordL L (gi f (j : Int))) (n : Int) = (p : Int) := ⟨(gi (ordL L (gi f (j : Int))) (n : Int)).toNat, by omega⟩
            rw [hp] at hc11
            have hse := blk_int hbe (n := nL) (c := nL) (by omega) (Nat.le_refl _)
            obtain ⟨hAe, hce⟩ := hse.getI (i := (p : Int)) (by omega) (by omega)
            have hbd := hds p (by omega)
            have hcb := cq_le L f n j (p : Int) f.length
            repeat refine zz ?_
            have hS : Keep we (World.drew we) := Keep.drew we
            refine W_late (Keep we) [20] (by kernel_rfl) (Keep.drew we) ?_
            first|refine e_o 0 ?_|refine e_a 0 ?_|refine e_s 0 ?_|refine e_n 0 ?_|refine e_i 0 ?_|refine e_f 0 ?_|refine e_b 0 ?_|refine e_d 0 ?_|refine e_l1 0 ?_|refine e_l2 0 ?_|refine e_l3 0 ?_|refine e_l4 0 ?_|refine e_l5 0 ?_|refine e_l6 0 ?_|refine e_l7 0 ?_|refine e_l8 0 ?_|refine e_l9 0 ?_|refine e_g 0 ?_|refine e_q 0 ?_|refine e_e 0 ?_|refine e_j 0 ?_
            first|refine e_o 1 ?_|refine e_a 1 ?_|refine e_s 1 ?_|refine e_n 1 ?_|refine e_i 1 ?_|refine e_f 1 ?_|refine e_b 1 ?_|refine e_d 1 ?_|refine e_l1 1 ?_|refine e_l2 1 ?_|refine e_l3 1 ?_|refine e_l4 1 ?_|refine e_l5 1 ?_|refine e_l6 1 ?_|refine e_l7 1 ?_|refine e_l8 1 ?_|refine e_l9 1 ?_|refine e_g 1 ?_|refine e_q 1 ?_|refine e_e 1 ?_|refine e_j 1 ?_
            first|refine e_o 2 ?_|refine e_a 2 ?_|refine e_s 2 ?_|refine e_n 2 ?_|refine e_i 2 ?_|refine e_f 2 ?_|refine e_b 2 ?_|refine e_d 2 ?_|refine e_l1 2 ?_|refine e_l2 2 ?_|refine e_l3 2 ?_|refine e_l4 2 ?_|refine e_l5 2 ?_|refine e_l6 2 ?_|refine e_l7 2 ?_|refine e_l8 2 ?_|refine e_l9 2 ?_|refine e_g 2 ?_|refine e_q 2 ?_|refine e_e 2 ?_|refine e_j 2 ?_
            first|refine e_o 3 ?_|refine e_a 3 ?_|refine e_s 3 ?_|refine e_n 3 ?_|refine e_i 3 ?_|refine e_f 3 ?_|refine e_b 3 ?_|refine e_d 3 ?_|refine e_l1 3 ?_|refine e_l2 3 ?_|refine e_l3 3 ?_|refine e_l4 3 ?_|refine e_l5 3 ?_|refine e_l6 3 ?_|refine e_l7 3 ?_|refine e_l8 3 ?_|refine e_l9 3 ?_|refine e_g 3 ?_|refine e_q 3 ?_|refine e_e 3 ?_|refine e_j 3 ?_
            first|refine e_o 4 ?_|refine e_a 4 ?_|refine e_s 4 ?_|refine e_n 4 ?_|refine e_i 4 ?_|refine e_f 4 ?_|refine e_b 4 ?_|refine e_d 4 ?_|refine e_l1 4 ?_|refine e_l2 4 ?_|refine e_l3 4 ?_|refine e_l4 4 ?_|refine e_l5 4 ?_|refine e_l6 4 ?_|refine e_l7 4 ?_|refine e_l8 4 ?_|refine e_l9 4 ?_|refine e_g 4 ?_|refine e_q 4 ?_|refine e_e 4 ?_|refine e_j 4 ?_
            first|refine e_o 5 ?_|refine e_a 5 ?_|refine e_s 5 ?_|refine e_n 5 ?_|refine e_i 5 ?_|refine e_f 5 ?_|refine e_b 5 ?_|refine e_d 5 ?_|refine e_l1 5 ?_|refine e_l2 5 ?_|refine e_l3 5 ?_|refine e_l4 5 ?_|refine e_l5 5 ?_|refine e_l6 5 ?_|refine e_l7 5 ?_|refine e_l8 5 ?_|refine e_l9 5 ?_|refine e_g 5 ?_|refine e_q 5 ?_|refine e_e 5 ?_|refine e_j 5 ?_
            first|refine e_o 6 ?_|refine e_a 6 ?_|refine e_s 6 ?_|refine e_n 6 ?_|refine e_i 6 ?_|refine e_f 6 ?_|refine e_b 6 ?_|refine e_d 6 ?_|refine e_l1 6 ?_|refine e_l2 6 ?_|refine e_l3 6 ?_|refine e_l4 6 ?_|refine e_l5 6 ?_|refine e_l6 6 ?_|refine e_l7 6 ?_|refine e_l8 6 ?_|refine e_l9 6 ?_|refine e_g 6 ?_|refine e_q 6 ?_|refine e_e 6 ?_|refine e_j 6 ?_
            first|refine e_o 7 ?_|refine e_a 7 ?_|refine e_s 7 ?_|refine e_n 7 ?_|refine e_i 7 ?_|refine e_f 7 ?_|refine e_b 7 ?_|refine e_d 7 ?_|refine e_l1 7 ?_|refine e_l2 7 ?_|refine e_l3 7 ?_|refine e_l4 7 ?_|refine e_l5 7 ?_|refine e_l6 7 ?_|refine e_l7 7 ?_|refine e_l8 7 ?_|refine e_l9 7 ?_|refine e_g 7 ?_|refine e_q 7 ?_|refine e_e 7 ?_|refine e_j 7 ?_
            first|refine e_o 8 ?_|refine e_a 8 ?_|refine e_s 8 ?_|refine e_n 8 ?_|refine e_i 8 ?_|refine e_f 8 ?_|refine e_b 8 ?_|refine e_d 8 ?_|refine e_l1 8 ?_|refine e_l2 8 ?_|refine e_l3 8 ?_|refine e_l4 8 ?_|refine e_l5 8 ?_|refine e_l6 8 ?_|refine e_l7 8 ?_|refine e_l8 8 ?_|refine e_l9 8 ?_|refine e_g 8 ?_|refine e_q 8 ?_|refine e_e 8 ?_|refine e_j 8 ?_
            first|refine e_o 9 ?_|refine e_a 9 ?_|refine e_s 9 ?_|refine e_n 9 ?_|refine e_i 9 ?_|refine e_f 9 ?_|refine e_b 9 ?_|refine e_d 9 ?_|refine e_l1 9 ?_|refine e_l2 9 ?_|refine e_l3 9 ?_|refine e_l4 9 ?_|refine e_l5 9 ?_|refine e_l6 9 ?_|refine e_l7 9 ?_|refine e_l8 9 ?_|refine e_l9 9 ?_|refine e_g 9 ?_|refine e_q 9 ?_|refine e_e 9 ?_|refine e_j 9 ?_
            first|refine e_o 10 ?_|refine e_a 10 ?_|refine e_s 10 ?_|refine e_n 10 ?_|refine e_i 10 ?_|refine e_f 10 ?_|refine e_b 10 ?_|refine e_d 10 ?_|refine e_l1 10 ?_|refine e_l2 10 ?_|refine e_l3 10 ?_|refine e_l4 10 ?_|refine e_l5 10 ?_|refine e_l6 10 ?_|refine e_l7 10 ?_|refine e_l8 10 ?_|refine e_l9 10 ?_|refine e_g 10 ?_|refine e_q 10 ?_|refine e_e 10 ?_|refine e_j 10 ?_
            first|refine e_o 11 ?_|refine e_a 11 ?_|refine e_s 11 ?_|refine e_n 11 ?_|refine e_i 11 ?_|refine e_f 11 ?_|refine e_b 11 ?_|refine e_d 11 ?_|refine e_l1 11 ?_|refine e_l2 11 ?_|refine e_l3 11 ?_|refine e_l4 11 ?_|refine e_l5 11 ?_|refine e_l6 11 ?_|refine e_l7 11 ?_|refine e_l8 11 ?_|refine e_l9 11 ?_|refine e_g 11 ?_|refine e_q 11 ?_|refine e_e 11 ?_|refine e_j 11 ?_
            first|refine e_o 12 ?_|refine e_a 12 ?_|refine e_s 12 ?_|refine e_n 12 ?_|refine e_i 12 ?_|refine e_f 12 ?_|refine e_b 12 ?_|refine e_d 12 ?_|refine e_l1 12 ?_|refine e_l2 12 ?_|refine e_l3 12 ?_|refine e_l4 12 ?_|refine e_l5 12 ?_|refine e_l6 12 ?_|refine e_l7 12 ?_|refine e_l8 12 ?_|refine e_l9 12 ?_|refine e_g 12 ?_|refine e_q 12 ?_|refine e_e 12 ?_|refine e_j 12 ?_
            first|refine e_o 13 ?_|refine e_a 13 ?_|refine e_s 13 ?_|refine e_n 13 ?_|refine e_i 13 ?_|refine e_f 13 ?_|refine e_b 13 ?_|refine e_d 13 ?_|refine e_l1 13 ?_|refine e_l2 13 ?_|refine e_l3 13 ?_|refine e_l4 13 ?_|refine e_l5 13 ?_|refine e_l6 13 ?_|refine e_l7 13 ?_|refine e_l8 13 ?_|refine e_l9 13 ?_|refine e_g 13 ?_|refine e_q 13 ?_|refine e_e 13 ?_|refine e_j 13 ?_
            first|refine e_o 14 ?_|refine e_a 14 ?_|refine e_s 14 ?_|refine e_n 14 ?_|refine e_i 14 ?_|refine e_f 14 ?_|refine e_b 14 ?_|refine e_d 14 ?_|refine e_l1 14 ?_|refine e_l2 14 ?_|refine e_l3 14 ?_|refine e_l4 14 ?_|refine e_l5 14 ?_|refine e_l6 14 ?_|refine e_l7 14 ?_|refine e_l8 14 ?_|refine e_l9 14 ?_|refine e_g 14 ?_|refine e_q 14 ?_|refine e_e 14 ?_|refine e_j 14 ?_
            first|refine e_o 15 ?_|refine e_a 15 ?_|refine e_s 15 ?_|refine e_n 15 ?_|refine e_i 15 ?_|refine e_f 15 ?_|refine e_b 15 ?_|refine e_d 15 ?_|refine e_l1 15 ?_|refine e_l2 15 ?_|refine e_l3 15 ?_|refine e_l4 15 ?_|refine e_l5 15 ?_|refine e_l6 15 ?_|refine e_l7 15 ?_|refine e_l8 15 ?_|refine e_l9 15 ?_|refine e_g 15 ?_|refine e_q 15 ?_|refine e_e 15 ?_|refine e_j 15 ?_
            first|refine e_o 16 ?_|refine e_a 16 ?_|refine e_s 16 ?_|refine e_n 16 ?_|refine e_i 16 ?_|refine e_f 16 ?_|refine e_b 16 ?_|refine e_d 16 ?_|refine e_l1 16 ?_|refine e_l2 16 ?_|refine e_l3 16 ?_|refine e_l4 16 ?_|refine e_l5 16 ?_|refine e_l6 16 ?_|refine e_l7 16 ?_|refine e_l8 16 ?_|refine e_l9 16 ?_|refine e_g 16 ?_|refine e_q 16 ?_|refine e_e 16 ?_|refine e_j 16 ?_
            first|refine e_o 17 ?_|refine e_a 17 ?_|refine e_s 17 ?_|refine e_n 17 ?_|refine e_i 17 ?_|refine e_f 17 ?_|refine e_b 17 ?_|refine e_d 17 ?_|refine e_l1 17 ?_|refine e_l2 17 ?_|refine e_l3 17 ?_|refine e_l4 17 ?_|refine e_l5 17 ?_|refine e_l6 17 ?_|refine e_l7 17 ?_|refine e_l8 17 ?_|refine e_l9 17 ?_|refine e_g 17 ?_|refine e_q 17 ?_|refine e_e 17 ?_|refine e_j 17 ?_
            first|refine e_o 18 ?_|refine e_a 18 ?_|refine e_s 18 ?_|refine e_n 18 ?_|refine e_i 18 ?_|refine e_f 18 ?_|refine e_b 18 ?_|refine e_d 18 ?_|refine e_l1 18 ?_|refine e_l2 18 ?_|refine e_l3 18 ?_|refine e_l4 18 ?_|refine e_l5 18 ?_|refine e_l6 18 ?_|refine e_l7 18 ?_|refine e_l8 18 ?_|refine e_l9 18 ?_|refine e_g 18 ?_|refine e_q 18 ?_|refine e_e 18 ?_|refine e_j 18 ?_
            first|refine e_o 19 ?_|refine e_a 19 ?_|refine e_s 19 ?_|refine e_n 19 ?_|refine e_i 19 ?_|refine e_f 19 ?_|refine e_b 19 ?_|refine e_d 19 ?_|refine e_l1 19 ?_|refine e_l2 19 ?_|refine e_l3 19 ?_|refine e_l4 19 ?_|refine e_l5 19 ?_|refine e_l6 19 ?_|refine e_l7 19 ?_|refine e_l8 19 ?_|refine e_l9 19 ?_|refine e_g 19 ?_|refine e_q 19 ?_|refine e_e 19 ?_|refine e_j 19 ?_
            refine WE_last 20 (by kernel_rfl) rfl (by kernel_rfl) ?_
            replace hke := hke.keep hS
            replace hle := hle.keep hS
            replace hbe := hbe.keep hS
            refine o_store1 (b := bC) (off := p) rfl rfl (by rw [ea_blk]; simp) rfl rfl hbe (by simp; omega) ?_
            intro wf huf
            have hbf : Blk wf bC 3 ((ds.set p (gi ds (p : Int) + 1)).map (Value.int .i64)) := by rw [← map_set_int]; exact huf.blk
            refine WL_end ?_
            refine WE_done (by kernel_rfl) ?_
            repeat refine zz ?_
            exact ⟨(j + 1, ds.set p (gi ds (p : Int) + 1)), ⟨rfl, rfl, rfl, rfl, rfl, rfl, trivial⟩, ⟨hke.upd huf (by omega), by dsimp only; omega, hle.upd huf hbl, hbf, by dsimp only; rw [List.length_set]; exact hdl', fun i hi => cq_put (by omega) (by omega) hp (by omega) (fun i hi => hds i (by omega)) i (by omega)⟩, by dsimp only; omega⟩
          · simp at hc4
            have hjn : j = f.length := by omega
            repeat refine zz ?_
            exact ⟨(n + 1, ds), ⟨rfl, rfl, rfl, rfl, rfl, trivial⟩, ⟨hke, by dsimp only; omega, hle, hbe, hdl', fun i hi => by dsimp only; rw [hds i hi, hjn, cnt_next], by dsimp only; rw [hgo]; exact hend⟩, by dsimp only; omega⟩
      · simp at hq
        have he : endN L f = n := by rw [← hend, show L.length - n = 0 by omega]; unfold endF; omega
        repeat refine zz ?_
        exact ⟨⟨rfl, rfl, rfl, by rw [he]; rfl, trivial⟩, hkb, cs, hbb, hcl, by rw [he]; exact hcs⟩
end Go.E

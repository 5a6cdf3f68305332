/-
  Contracts: passes with a window, by the reference. Conditions: as stated.
-/
import Derived.Test.YtdenoambgonomaaGreatBk
import Derived.Test.YtdenoambgonomaaGreatM1
import Derived.Test.YtdenoambgonomaaGreatAg
set_option linter.unusedVariables false
set_option linter.unusedSimpArgs false
namespace Go.E
open Go Go.RowKit Go.Proofs
theorem inR_iff' {x lo hi : Int} : inR x lo hi = true ↔ lo ≤ x ∧ x ≤ hi := by simp [inR]
theorem any_step {α : Type} [Inhabited α] {p : α → Bool} {xs : List α} {k : Nat} (h : k < xs.length) : (xs.take (k + 1)).any p = ((xs.take k).any p || p (gi xs (k : Int))) := by
  rw [take_gi h, List.any_append]; simp
theorem bIns_step {L : List Itm} {e : List Nod} {i : Nat} {xs : List (Nat × Bool)} {k : Nat} (h : k < xs.length) : bIns L e i (xs.take (k + 1)) = bIns L e i (xs.take k) ++ (if (!bOut L e i (gi xs (k : Int))) then [gi xs (k : Int)] else []) := by
  unfold bIns
  rw [take_gi h, List.filter_append]
  congr 1
  by_cases hs : (!bOut L e i (gi xs (k : Int))) = true
  · rw [if_pos hs]; simp [hs]
  · rw [if_neg hs]; simp [hs]
theorem gi_fst {xs : List (Nat × Bool)} {k : Nat} (h : k < xs.length) : gi (xs.map fun p => p.1) (k : Int) = (gi xs (k : Int)).1 := gi_mapI (f := fun p : Nat × Bool => p.1) h
theorem gi_snd {xs : List (Nat × Bool)} {k : Nat} (h : k < xs.length) : gi (xs.map fun p => p.2) (k : Int) = (gi xs (k : Int)).2 := gi_mapI (f := fun p : Nat × Bool => p.2) h
theorem OwnF.slF {α : Type} {F : Flat α} {w : World} {base : Nat} {el : TypeId} {v : Value} {xs : List α} (h : OwnF F.R w base el v xs []) (hs : 0 < F.sz) : ∃ f, Sl F.R w v xs f := by
  obtain ⟨f, h1, _⟩ := h.sl hs
  exact ⟨f, h1⟩
theorem step_hit {L : List Itm} {e : List Nod} {win : Nat} {ps : List Nat} {i : Nat} (h : (passN L e win ps i).1.any (bHit L e (gi ps (i : Int))) = true) : passN L e win ps (i + 1) = passN L e win ps i := by rw [passN, stepB, if_pos h]
theorem step_in {L : List Itm} {e : List Nod} {win : Nat} {ps : List Nat} {i : Nat} (h : ¬ (passN L e win ps i).1.any (bHit L e (gi ps (i : Int))) = true) (hl : (bIns L e (gi ps (i : Int)) (passN L e win ps i).1).length < win) :
    passN L e win ps (i + 1) = (bIns L e (gi ps (i : Int)) (passN L e win ps i).1 ++ [(gi ps (i : Int), decide ((passN L e win ps i).2.length = 0))], (passN L e win ps i).2) := by rw [passN, stepB, if_neg h, if_pos hl]
theorem step_over {L : List Itm} {e : List Nod} {win : Nat} {ps : List Nat} {i : Nat} (h : ¬ (passN L e win ps i).1.any (bHit L e (gi ps (i : Int))) = true) (hl : ¬ (bIns L e (gi ps (i : Int)) (passN L e win ps i).1).length < win) :
    passN L e win ps (i + 1) = (bIns L e (gi ps (i : Int)) (passN L e win ps i).1, (passN L e win ps i).2 ++ [gi ps (i : Int)]) := by rw [passN, stepB, if_neg h, if_neg hl]
theorem done_step {xs : List (Nat × Bool)} {k : Nat} (h : k < xs.length) : doneP (xs.take (k + 1)) = doneP (xs.take k) ++ (if (gi xs (k : Int)).2 then [(gi xs (k : Int)).1] else []) := by
  unfold doneP
  rw [take_gi h, List.filter_append, List.map_append]
  congr 1
  obtain ⟨i, b⟩ := gi xs (k : Int)
  cases b <;> simp
theorem late_step {xs : List (Nat × Bool)} {k : Nat} (h : k < xs.length) : lateP (xs.take (k + 1)) = lateP (xs.take k) ++ (if (gi xs (k : Int)).2 then [] else [(gi xs (k : Int)).1]) := by
  unfold lateP
  rw [take_gi h, List.filter_append, List.map_append]
  congr 1
  obtain ⟨i, b⟩ := gi xs (k : Int)
  cases b <;> simp
attribute [local irreducible] W WL WD WE thenE inE retQ PureOp Keep Cell Cells Blk Sl Rows Own Src Fresh
attribute [local irreducible] passN bIns doneP lateP

set_option maxHeartbeats 4000000 in
theorem l8Pass_ok {w : World} {v u : Value} {L : List Itm} {e : List Nod} {U : Nat → Value} {g fp gp : List Nat} {ps : List Nat} {q : Int} (hP : Sl (idF L U).R w v ps fp) (hB : BehN L U g w) (he : Sl nodeR w u e gp) (hex : isExpr e = true) (hit : ∀ i : Nat, i < L.length → isItem (gi L (i : Int)) = true) (hn : ps.length ≤ 16) (hq : 1 ≤ q ∧ q ≤ 16) :
    Run Tryz.prog 96 [v, u, .int .i64 q] w (fun r w' => Keep w w' ∧ ∃ d o, r = .tuple #[d, o] ∧ OwnF (idF L U).R w' w.heap.size 67 d (doneP (passN L e q.toNat ps ps.length).1) [] ∧ OwnF (idF L U).R w' w.heap.size 67 o ((passN L e q.toNat ps ps.length).2 ++ lateP (passN L e q.toNat ps ps.length).1) []) := by
  obtain ⟨A, n, c, rfl, hnx⟩ := hP.split
  have hsz : (idF L U).sz = 2 := rfl
  generalize hW : q.toNat = W0
  refine Run_intro Tryz.func96 (by unfold CallOk; kernel_rfl) rfl Tryz.ntmps96 (Nat.le_of_ble_eq_true rfl) ?_
  simp only [penv, Nat.reduceAdd, Nat.zero_add]
  repeat refine zz ?_
  refine o_buildSlice rfl rfl rfl rfl rfl (by intro p hp; cases hp) (by omega) ?_
  intro b8 w1 hal1
  have he1 := hal1.b_eq
  have hz1 := hal1.size
  have h8 : OwnF (idF L U).R w1 w.heap.size 67 (.slice (some ⟨b8, 0, none⟩) 0 0) [] [] := OwnF.made hal1.blk (by omega)
  repeat refine zz ?_
  refine o_buildSlice rfl rfl rfl rfl rfl (by intro p hp; cases hp) (by omega) ?_
  intro b9 w2 hal2
  have he2 := hal2.b_eq
  have hz2 := hal2.size
  have h9 : OwnF boF.R w2 w.heap.size 4 (.slice (some ⟨b9, 0, none⟩) 0 0) [] [] := OwnF.made hal2.blk (by omega)
  replace h8 := h8.keep hal2.kp
  repeat refine zz ?_
  refine o_buildSlice rfl rfl rfl rfl rfl (by intro p hp; cases hp) (by omega) ?_
  intro b10 w3 hal3
  have he3 := hal3.b_eq
  have hz3 := hal3.size
  have h10 : OwnF (idF L U).R w3 w.heap.size 67 (.slice (some ⟨b10, 0, none⟩) 0 0) [] [] := OwnF.made hal3.blk (by omega)
  replace h8 := h8.keep hal3.kp
  replace h9 := h9.keep hal3.kp
  have hk3 := (hal1.kp.keep hal2.kp).keep hal3.kp
  have a89 : Apart (.slice (some ⟨b8, 0, none⟩) 0 0) (.slice (some ⟨b9, 0, none⟩) 0 0) := fun c h1 h2 => by simp only [Value.ownBlock, Option.some.injEq] at h1 h2; omega
  have a810 : Apart (.slice (some ⟨b8, 0, none⟩) 0 0) (.slice (some ⟨b10, 0, none⟩) 0 0) := fun c h1 h2 => by simp only [Value.ownBlock, Option.some.injEq] at h1 h2; omega
  have a910 : Apart (.slice (some ⟨b9, 0, none⟩) 0 0) (.slice (some ⟨b10, 0, none⟩) 0 0) := fun c h1 h2 => by simp only [Value.ownBlock, Option.some.injEq] at h1 h2; omega
  have hp0 : passN L e W0 ps 0 = ([], []) := by unfold passN; rfl
  repeat refine zz ?_
  refine W_loop (S := Nat × Value × Value × Value) (fun s => [(0, .slice A n c), (1, u), (2, .int .i64 q), (8, s.2.1), (9, s.2.2.1), (10, s.2.2.2), (11, .int .i64 (s.1 : Int))]) (fun s w' => Keep w w' ∧ s.1 ≤ n ∧ OwnF (idF L U).R w' w.heap.size 67 s.2.1 ((passN L e W0 ps s.1).1.map fun p => p.1) [] ∧ OwnF boF.R w' w.heap.size 4 s.2.2.1 ((passN L e W0 ps s.1).1.map fun p => p.2) [] ∧ OwnF (idF L U).R w' w.heap.size 67 s.2.2.2 (passN L e W0 ps s.1).2 [] ∧ Apart s.2.1 s.2.2.1 ∧ Apart s.2.1 s.2.2.2 ∧ Apart s.2.2.1 s.2.2.2) (fun s => n - s.1) (0, _, _, _) ⟨rfl, rfl, rfl, rfl, rfl, rfl, rfl, trivial⟩ ⟨hk3, by omega, by rw [hp0]; exact h8, by rw [hp0]; exact h9, by rw [hp0]; exact h10, a89, a810, a910⟩ ?_
  clear h8 h9 h10 a89 a810 a910 hk3
  rintro ⟨i, v8, v9, v10⟩ wa ⟨hka, hi, h8, h9, h10, a89, a810, a910⟩
  dsimp only at hi h8 h9 h10 a89 a810 a910 ⊢
  have hstl := passN_len L e W0 ps i
  generalize hst : passN L e W0 ps i = st at h8 h9 h10 hstl
  obtain ⟨f8, s8⟩ := h8.slF (by rw [hsz]; decide)
  obtain ⟨f9, s9⟩ := h9.slF (by decide)
  obtain ⟨A8, n8, c8, rfl, hn8⟩ := s8.split
  obtain ⟨A9, n9, c9, rfl, hn9⟩ := s9.split
  rw [List.length_map] at hn8 hn9
  have hza := hka.size_le
  repeat refine zz ?_
  refine W_cond rfl (fun hc => ?_) (fun hc => ?_)
  · have hin : i < n := by simp at hc; omega
    obtain ⟨hA, hokx, hcx⟩ := Flat.get (hP.keep hka) (i := (i : Int)) (by omega) (by omega)
    generalize hxe : gi ps (i : Int) = x at hokx hcx
    have hcx : Cells wa (ea A 2 (i : Int)) [.int .i64 (gi L (x : Int)).id, U x] := hcx
    obtain ⟨hxL, hxo⟩ := hokx
    obtain ⟨fx, hux, _⟩ := hB x hxL
    repeat refine zz ?_
    refine o_buildSlice rfl rfl rfl rfl rfl (by intro p hp; cases hp) (by omega) ?_
    intro b12 wc hal12
    have he12 := hal12.b_eq
    have hz12 := hal12.size
    have h12 : OwnF (idF L U).R wc wa.heap.size 67 (.slice (some ⟨b12, 0, none⟩) 0 0) [] [] := OwnF.made hal12.blk (by omega)
    repeat refine zz ?_
    refine o_buildSlice rfl rfl rfl rfl rfl (by intro p hp; cases hp) (by omega) ?_
    intro b13 wd hal13
    have he13 := hal13.b_eq
    have hz13 := hal13.size
    have h13 : OwnF boF.R wd wa.heap.size 4 (.slice (some ⟨b13, 0, none⟩) 0 0) [] [] := OwnF.made hal13.blk (by omega)
    replace h12 := h12.keep hal13.kp
    have hkd0 := hal12.kp.keep hal13.kp
    have hap0 : Apart (.slice (some ⟨b12, 0, none⟩) 0 0) (.slice (some ⟨b13, 0, none⟩) 0 0) := fun c h1 h2 => by simp only [Value.ownBlock, Option.some.injEq] at h1 h2; omega
    have hb0 : bIns L e x (st.1.take 0) = [] := by unfold bIns; simp
    repeat refine zz ?_
    refine W_loop (S := Nat × Value × Value) (fun s => [(0, .slice A n c), (1, u), (2, .int .i64 q), (8, .slice A8 n8 c8), (9, .slice A9 n9 c9), (10, v10), (11, .int .i64 (i : Int)), (12, s.2.1), (13, s.2.2), (14, .bool (!(st.1.take s.1).any (bHit L e x))), (15, .int .i64 (s.1 : Int))]) (fun s w' => Keep wa w' ∧ s.1 ≤ n8 ∧ OwnF (idF L U).R w' wa.heap.size 67 s.2.1 ((bIns L e x (st.1.take s.1)).map fun p => p.1) [] ∧ OwnF boF.R w' wa.heap.size 4 s.2.2 ((bIns L e x (st.1.take s.1)).map fun p => p.2) [] ∧ Apart s.2.1 s.2.2) (fun s => n8 - s.1) (0, _, _) ⟨rfl, rfl, rfl, rfl, rfl, rfl, rfl, rfl, rfl, rfl, rfl, trivial⟩ ⟨hkd0, by omega, by rw [hb0]; exact h12, by rw [hb0]; exact h13, hap0⟩ ?_
    clear h12 h13 hap0 hkd0
    rintro ⟨k, v12, v13⟩ wb ⟨hkb, hk, h12b, h13b, hap⟩
    dsimp only at hk h12b h13b hap ⊢
    have hbl : (bIns L e x (st.1.take k)).length ≤ 16 := by have := bIns_len L e x (st.1.take k); rw [List.length_take] at this; omega
    repeat refine zz ?_
    refine W_cond rfl (fun hd => ?_) (fun hd => ?_)
    · have hkl : k < n8 := by simp at hd; omega
      have h8b := s8.keep hkb
      have h9b := s9.keep hkb
      obtain ⟨hA8, hok8, hc8⟩ := Flat.get h8b (i := (k : Int)) (by omega) (by omega)
      obtain ⟨hA9, _, hc9⟩ := Flat.get h9b (i := (k : Int)) (by omega) (by omega)
      rw [gi_fst (by omega)] at hok8 hc8
      rw [gi_snd (by omega)] at hc9
      have hc8 : Cells wb (ea A8 2 (k : Int)) [.int .i64 (gi L ((gi st.1 (k : Int)).1 : Int)).id, U (gi st.1 (k : Int)).1] := hc8
      obtain ⟨_, _, hc9a⟩ := Flat.get s9 (i := (k : Int)) (by omega) (by omega)
      rw [gi_snd (by omega)] at hc9a
      have hc9o : Cell wa (ea A9 1 (k : Int)) (.bool (gi st.1 (k : Int)).2) := Cells.one hc9a
      have hc9 : Cell wb (ea A9 1 (k : Int)) (.bool (gi st.1 (k : Int)).2) := hc9o.keep hkb
      obtain ⟨hyL, hyo⟩ := hok8
      obtain ⟨fy, huy, _⟩ := (hB.keep (hka.keep hkb)) _ hyL
      have huxb := hux.keep (hka.keep hkb)
      have heb := he.keep (hka.keep hkb)
      have hcxb := hcx.keep hkb
      have hany := any_step (p := bHit L e x) (xs := st.1) (k := k) (by omega)
      have hst := bIns_step (L := L) (e := e) (i := x) (xs := st.1) (k := k) (by omega)
      have hok8 : (gi st.1 (k : Int)).1 < L.length ∧ (U (gi st.1 (k : Int)).1).oneCell' = true := ⟨hyL, hyo⟩
      repeat refine zz ?_
      refine W_quiet (Keep wb) (by kernel_rfl) (by kernel_rfl) (Keep.drew _) ?_
      repeat refine qq ?_
      refine WQ_call rfl rfl rfl (fun w' hw' => (l5Compare_ok (heb.keep hw') (huy.keep hw') (huxb.keep hw') hex (hit _ hyL) (hit _ hxL)).kk hw') ?_
      repeat refine qq ?_
      intro wd hkd 
      repeat refine zz ?_
      refine WL_part rfl rfl (fun hfi => ?_) (fun hfi => ?_)
      · have hfa : (st.1.take k).any (bHit L e x) = false := by simpa using hfi
        repeat refine zz ?_
        refine W_cond rfl (fun hne => ?_) (fun hne => ?_)
        · have hbo : (!bOut L e x (gi st.1 (k : Int))) = true := by
            simp only [decide_eq_true_eq] at hne
            simp only [bOut, Bool.not_eq_true', decide_eq_false_iff_not]
            exact fun h => hne ((flip1 hex _ _).1 h)
          rw [if_pos hbo] at hst
          have h8d := (h8b.keep hkd)
          have h9d := (h9b.keep hkd)
          have c8d := hc8.keep hkd
          have c9d := hc9.keep hkd
          have h12d := h12b.keep hkd
          have h13d := h13b.keep hkd
          repeat refine zz ?_
          refine o_buildSlice rfl rfl rfl rfl rfl (by simp [Value.cells]) (by omega) ?_
          intro b5 w5 hal5
          have hz5 := hal5.size
          have hzd := (hka.keep (hkb.keep hkd)).size_le
          have hzd2 := (hkb.keep hkd).size_le
          have hk5 : Keep wa w5 := (hkb.keep hkd).keep hal5.kp
          have hb5 : Blk w5 b5 67 ((idF L U).cf (gi st.1 (k : Int)).1) := by simpa [Value.cells, idF] using hal5.blk
          replace h12d := h12d.keep hal5.kp
          replace h13d := h13d.keep hal5.kp
          replace c9d := c9d.keep hal5.kp
          repeat refine zz ?_
          refine o_appendG (sz := 2) (R := (idF L U).R) (M := _) (gi := []) rfl rfl rfl rfl rfl (by decide) h12d (Blk.src (xs := [(gi st.1 (k : Int)).1]) hb5 (Flat.single hok8)) rfl (Fresh.nil _ _) (fun b hb => by simp at hb) (fun b hb => (h12d.lt hb).2) (fun b hb => by simp at hb) (by simp only [List.length_map, List.length_cons, List.length_nil]; omega) (by simp only [List.length_map, List.length_cons, List.length_nil]; omega) (by omega) ?_
          intro v12' w6 h12n hb6 hg6 hv12
          have h13e := h13d.grown hg6 (fun b hb => ⟨hap b hb, by simp⟩)
          have hap6 : Apart v12' v13 := hap.next hv12 (fun c hc => (h13d.lt hc).2)
          have hk6 : Keep wa w6 := hk5.grown hg6 (fun b hb => (h12d.lt hb).1)
          have c9e := hc9o.keep hk6
          repeat refine zz ?_
          refine o_buildSlice rfl rfl rfl rfl rfl (by simp [Value.cells]) (by omega) ?_
          intro b7 w7 hal7
          have hz7 := hal7.size
          have hk7 := hk6.keep hal7.kp
          have hz6 := hg6.size
          have hb7 : Blk w7 b7 4 (boF.cf (gi st.1 (k : Int)).2) := by simpa [Value.cells, boF] using hal7.blk
          replace h12n := h12n.keep hal7.kp
          replace h13e := h13e.keep hal7.kp
          repeat refine zz ?_
          refine o_appendG (sz := 1) (R := boF.R) (M := _) (gi := []) rfl rfl rfl rfl rfl (by decide) h13e (Blk.src (xs := [(gi st.1 (k : Int)).2]) hb7 (Flat.single (F := boF) trivial)) rfl (Fresh.nil _ _) (fun b hb => by simp at hb) (fun b hb => (h13e.lt hb).2) (fun b hb => by simp at hb) (by simp only [List.length_map, List.length_cons, List.length_nil]; omega) (by simp only [List.length_map, List.length_cons, List.length_nil]; omega) (by omega) ?_
          intro v13' w8 h13n hb8 hg8 hv13
          have h12f := h12n.grown hg8 (fun b hb => ⟨hap6.symm b hb, by simp⟩)
          have hap8 : Apart v12' v13' := (hap6.symm.next hv13 (fun c hc => (h12n.lt hc).2)).symm
          have hk8 : Keep wa w8 := hk7.grown hg8 (fun b hb => (h13e.lt hb).1)
          repeat refine zz ?_
          refine ⟨(k + 1, v12', v13'), ⟨rfl, rfl, rfl, rfl, rfl, rfl, rfl, rfl, rfl, find_val rfl (by dsimp only; rw [hany, hfa]; simp [bHit]), rfl, trivial⟩, ⟨hk8, by dsimp only; omega, ?_, ?_, hap8⟩, by dsimp only; omega⟩
          · dsimp only
            rw [hst, List.map_append]; exact h12f
          · dsimp only
            rw [hst, List.map_append]; exact h13n
        · have hbo : ¬ (!bOut L e x (gi st.1 (k : Int))) = true := by
            simp only [decide_eq_false_iff_not, Decidable.not_not] at hne
            simp only [bOut, Bool.not_eq_true', decide_eq_false_iff_not, Decidable.not_not]
            exact (flip1 hex _ _).2 hne
          rw [if_neg hbo, List.append_nil] at hst
          repeat refine zz ?_
          refine ⟨(k + 1, v12, v13), ⟨rfl, rfl, rfl, rfl, rfl, rfl, rfl, rfl, rfl, find_val rfl (by dsimp only; rw [hany, hfa]; simp [bHit]), rfl, trivial⟩, ⟨hkb.keep hkd, by dsimp only; omega, ?_, ?_, hap⟩, by dsimp only; omega⟩
          · dsimp only
            rw [hst]; exact h12b.keep hkd
          · dsimp only
            rw [hst]; exact h13b.keep hkd
      · have hfa : (st.1.take k).any (bHit L e x) = true := by simpa using hfi
        repeat refine zz ?_
        refine W_cond rfl (fun hne => ?_) (fun hne => ?_)
        · have hbo : (!bOut L e x (gi st.1 (k : Int))) = true := by
            simp only [decide_eq_true_eq] at hne
            simp only [bOut, Bool.not_eq_true', decide_eq_false_iff_not]
            exact fun h => hne ((flip1 hex _ _).1 h)
          rw [if_pos hbo] at hst
          have h8d := (h8b.keep hkd)
          have h9d := (h9b.keep hkd)
          have c8d := hc8.keep hkd
          have c9d := hc9.keep hkd
          have h12d := h12b.keep hkd
          have h13d := h13b.keep hkd
          repeat refine zz ?_
          refine o_buildSlice rfl rfl rfl rfl rfl (by simp [Value.cells]) (by omega) ?_
          intro b5 w5 hal5
          have hz5 := hal5.size
          have hzd := (hka.keep (hkb.keep hkd)).size_le
          have hzd2 := (hkb.keep hkd).size_le
          have hk5 : Keep wa w5 := (hkb.keep hkd).keep hal5.kp
          have hb5 : Blk w5 b5 67 ((idF L U).cf (gi st.1 (k : Int)).1) := by simpa [Value.cells, idF] using hal5.blk
          replace h12d := h12d.keep hal5.kp
          replace h13d := h13d.keep hal5.kp
          replace c9d := c9d.keep hal5.kp
          repeat refine zz ?_
          refine o_appendG (sz := 2) (R := (idF L U).R) (M := _) (gi := []) rfl rfl rfl rfl rfl (by decide) h12d (Blk.src (xs := [(gi st.1 (k : Int)).1]) hb5 (Flat.single hok8)) rfl (Fresh.nil _ _) (fun b hb => by simp at hb) (fun b hb => (h12d.lt hb).2) (fun b hb => by simp at hb) (by simp only [List.length_map, List.length_cons, List.length_nil]; omega) (by simp only [List.length_map, List.length_cons, List.length_nil]; omega) (by omega) ?_
          intro v12' w6 h12n hb6 hg6 hv12
          have h13e := h13d.grown hg6 (fun b hb => ⟨hap b hb, by simp⟩)
          have hap6 : Apart v12' v13 := hap.next hv12 (fun c hc => (h13d.lt hc).2)
          have hk6 : Keep wa w6 := hk5.grown hg6 (fun b hb => (h12d.lt hb).1)
          have c9e := hc9o.keep hk6
          repeat refine zz ?_
          refine o_buildSlice rfl rfl rfl rfl rfl (by simp [Value.cells]) (by omega) ?_
          intro b7 w7 hal7
          have hz7 := hal7.size
          have hk7 := hk6.keep hal7.kp
          have hz6 := hg6.size
          have hb7 : Blk w7 b7 4 (boF.cf (gi st.1 (k : Int)).2) := by simpa [Value.cells, boF] using hal7.blk
          replace h12n := h12n.keep hal7.kp
          replace h13e := h13e.keep hal7.kp
          repeat refine zz ?_
          refine o_appendG (sz := 1) (R := boF.R) (M := _) (gi := []) rfl rfl rfl rfl rfl (by decide) h13e (Blk.src (xs := [(gi st.1 (k : Int)).2]) hb7 (Flat.single (F := boF) trivial)) rfl (Fresh.nil _ _) (fun b hb => by simp at hb) (fun b hb => (h13e.lt hb).2) (fun b hb => by simp at hb) (by simp only [List.length_map, List.length_cons, List.length_nil]; omega) (by simp only [List.length_map, List.length_cons, List.length_nil]; omega) (by omega) ?_
          intro v13' w8 h13n hb8 hg8 hv13
          have h12f := h12n.grown hg8 (fun b hb => ⟨hap6.symm b hb, by simp⟩)
          have hap8 : Apart v12' v13' := (hap6.symm.next hv13 (fun c hc => (h12n.lt hc).2)).symm
          have hk8 : Keep wa w8 := hk7.grown hg8 (fun b hb => (h13e.lt hb).1)
          repeat refine zz ?_
          refine ⟨(k + 1, v12', v13'), ⟨rfl, rfl, rfl, rfl, rfl, rfl, rfl, rfl, rfl, find_val rfl (by dsimp only; rw [hany, hfa]; simp [bHit]), rfl, trivial⟩, ⟨hk8, by dsimp only; omega, ?_, ?_, hap8⟩, by dsimp only; omega⟩
          · dsimp only
            rw [hst, List.map_append]; exact h12f
          · dsimp only
            rw [hst, List.map_append]; exact h13n
        · have hbo : ¬ (!bOut L e x (gi st.1 (k : Int))) = true := by
            simp only [decide_eq_false_iff_not, Decidable.not_not] at hne
            simp only [bOut, Bool.not_eq_true', decide_eq_false_iff_not, Decidable.not_not]
            exact (flip1 hex _ _).2 hne
          rw [if_neg hbo, List.append_nil] at hst
          repeat refine zz ?_
          refine ⟨(k + 1, v12, v13), ⟨rfl, rfl, rfl, rfl, rfl, rfl, rfl, rfl, rfl, find_val rfl (by dsimp only; rw [hany, hfa]; simp [bHit]), rfl, trivial⟩, ⟨hkb.keep hkd, by dsimp only; omega, ?_, ?_, hap⟩, by dsimp only; omega⟩
          · dsimp only
            rw [hst]; exact h12b.keep hkd
          · dsimp only
            rw [hst]; exact h13b.keep hkd
    · simp at hd
      obtain rfl : n8 = k := by omega
      have ht8 : st.1.take n8 = st.1 := by rw [hn8, List.take_length]
      rw [ht8] at h12b h13b hbl
      rw [ht8]
      have h8b := h8.keep hkb
      have h9b := h9.keep hkb
      have h10b := h10.keep hkb
      have hzb := hkb.size_le
      have l10 := fun c hc => (h10.lt (b := c) hc).2
      have l12 := fun c hc => (h12b.lt (b := c) hc).1
      have l13 := fun c hc => (h13b.lt (b := c) hc).1
      have hcxb := hcx.keep hkb
      have hkc := hka.keep hkb
      repeat refine zz ?_
      refine W_cond rfl (fun hhit => ?_) (fun hhit => ?_)
      · have hfa : st.1.any (bHit L e x) = true := by simpa using hhit
        repeat refine zz ?_
        have e1 : passN L e W0 ps (i + 1) = st := by rw [step_hit (by rw [hst, hxe]; exact hfa), hst]
        exact ⟨(i + 1, _, _, v10), ⟨rfl, rfl, rfl, rfl, rfl, rfl, rfl, trivial⟩, ⟨hkc, by dsimp only; omega, by dsimp only; rw [e1]; exact h8b, by dsimp only; rw [e1]; exact h9b, by dsimp only; rw [e1]; exact h10b, a89, a810, a910⟩, by dsimp only; omega⟩
      have hfa : ¬ st.1.any (bHit L e x) = true := by simpa using hhit
      have a1210 : Apart v12 v10 := fun c h1 h2 => by have := l12 c h1; have := l10 c h2; omega
      have a1310 : Apart v13 v10 := fun c h1 h2 => by have := l13 c h1; have := l10 c h2; omega
      obtain ⟨f12, s12⟩ := h12b.slF (by rw [hsz]; decide)
      obtain ⟨A12, n12, c12, rfl, hn12⟩ := s12.split
      rw [List.length_map] at hn12
      replace h12b := h12b.below hza
      replace h13b := h13b.below hza
      obtain ⟨A10, n10, c10, rfl, hn10, _⟩ := h10b.split
      repeat refine zz ?_
      refine W_cond rfl (fun hlt => ?_) (fun hlt => ?_)
      · have hlt2 : (bIns L e x st.1).length < W0 := by simp at hlt; omega
        have e1 : passN L e W0 ps (i + 1) = (bIns L e x st.1 ++ [(x, decide (st.2.length = 0))], st.2) := by rw [step_in (by rw [hst, hxe]; exact hfa) (by rw [hst, hxe]; exact hlt2), hst, hxe]
        repeat refine zz ?_
        refine o_buildSlice rfl rfl rfl rfl rfl (by simp [Value.cells]) (by omega) ?_
        intro b5 w5 hal5
        have hz5 := hal5.size
        have hb5 : Blk w5 b5 67 ((idF L U).cf x) := by simpa [Value.cells, idF] using hal5.blk
        have hzc := hkc.size_le
        replace hkc := hkc.keep hal5.kp
        replace h12b := h12b.keep hal5.kp
        replace h13b := h13b.keep hal5.kp
        replace h10b := h10b.keep hal5.kp
        repeat refine zz ?_
        refine o_appendG (sz := 2) (R := (idF L U).R) (M := _) (gi := []) rfl rfl rfl rfl rfl (by decide) h12b (Blk.src (xs := [x]) hb5 (Flat.single ⟨hxL, hxo⟩)) rfl (Fresh.nil _ _) (fun b hb => by simp at hb) (fun b hb => (h12b.lt hb).2) (fun b hb => by simp at hb) (by simp only [List.length_map, List.length_cons, List.length_nil]; omega) (by simp only [List.length_map, List.length_cons, List.length_nil]; omega) (by omega) ?_
        intro v8' w6 h12n hb6 hg6 hv8
        have hz6 := hg6.size
        have u13 := fun c hc => (h13b.lt (b := c) hc).2
        have u10 := fun c hc => (h10b.lt (b := c) hc).2
        have b89 : Apart v8' v13 := hap.next hv8 u13
        have b810 : Apart v8' (.slice A10 n10 c10) := a1210.next hv8 u10
        replace hkc := hkc.grown hg6 (fun b hb => (h12b.lt hb).1)
        replace h13b := h13b.grown hg6 (fun b hb => ⟨hap b hb, by simp⟩)
        replace h10b := h10b.grown hg6 (fun b hb => ⟨a1210 b hb, by simp⟩)
        repeat refine zz ?_
        refine o_buildSlice rfl rfl rfl rfl rfl (by simp [Value.cells]) (by omega) ?_
        intro b7 w7 hal7
        have hz7 := hal7.size
        have hb7 : Blk w7 b7 4 (boF.cf (decide (st.2.length = 0))) := by simpa [Value.cells, boF, hn10] using hal7.blk
        replace hkc := hkc.keep hal7.kp
        replace h12n := h12n.keep hal7.kp
        replace h13b := h13b.keep hal7.kp
        replace h10b := h10b.keep hal7.kp
        have u8 := fun c hc => (h12n.lt (b := c) hc).2
        have u10' := fun c hc => (h10b.lt (b := c) hc).2
        repeat refine zz ?_
        refine o_appendG (sz := 1) (R := boF.R) (M := _) (gi := []) rfl rfl rfl rfl rfl (by decide) h13b (Blk.src (xs := [decide (st.2.length = 0)]) hb7 (Flat.single (F := boF) trivial)) rfl (Fresh.nil _ _) (fun b hb => by simp at hb) (fun b hb => (h13b.lt hb).2) (fun b hb => by simp at hb) (by simp only [List.length_map, List.length_cons, List.length_nil]; omega) (by simp only [List.length_map, List.length_cons, List.length_nil]; omega) (by omega) ?_
        intro v9' w8 h13n hb8 hg8 hv9
        have c98 : Apart v9' v8' := b89.symm.next hv9 u8
        have c910 : Apart v9' (.slice A10 n10 c10) := a1310.next hv9 u10'
        have h8f := h12n.grown hg8 (fun b hb => ⟨b89.symm b hb, by simp⟩)
        have h10f := h10b.grown hg8 (fun b hb => ⟨a1310 b hb, by simp⟩)
        repeat refine zz ?_
        refine ⟨(i + 1, v8', v9', .slice A10 n10 c10), ⟨rfl, rfl, rfl, rfl, rfl, rfl, rfl, trivial⟩, ⟨hkc.grown hg8 (fun b hb => (h13b.lt hb).1), by dsimp only; omega, ?_, ?_, ?_, c98.symm, b810, c910⟩, by dsimp only; omega⟩
        · dsimp only; rw [e1, List.map_append]; exact h8f
        · dsimp only; rw [e1, List.map_append]; exact h13n
        · dsimp only; rw [e1]; exact h10f
      · have hlt2 : ¬ (bIns L e x st.1).length < W0 := by simp at hlt; omega
        have e1 : passN L e W0 ps (i + 1) = (bIns L e x st.1, st.2 ++ [x]) := by rw [step_over (by rw [hst, hxe]; exact hfa) (by rw [hst, hxe]; exact hlt2), hst, hxe]
        repeat refine zz ?_
        refine o_buildSlice rfl rfl rfl rfl rfl (by simp [Value.cells]) (by omega) ?_
        intro b5 w5 hal5
        have hz5 := hal5.size
        have hb5 : Blk w5 b5 67 ((idF L U).cf x) := by simpa [Value.cells, idF] using hal5.blk
        have hzc := hkc.size_le
        replace hkc := hkc.keep hal5.kp
        replace h12b := h12b.keep hal5.kp
        replace h13b := h13b.keep hal5.kp
        replace h10b := h10b.keep hal5.kp
        have u12 := fun c hc => (h12b.lt (b := c) hc).2
        have u13 := fun c hc => (h13b.lt (b := c) hc).2
        repeat refine zz ?_
        refine o_appendG (sz := 2) (R := (idF L U).R) (M := _) (gi := []) rfl rfl rfl rfl rfl (by decide) h10b (Blk.src (xs := [x]) hb5 (Flat.single ⟨hxL, hxo⟩)) rfl (Fresh.nil _ _) (fun b hb => by simp at hb) (fun b hb => (h10b.lt hb).2) (fun b hb => by simp at hb) (by simp only [List.length_map, List.length_cons, List.length_nil]; omega) (by simp only [List.length_map, List.length_cons, List.length_nil]; omega) (by omega) ?_
        intro v10' w6 h10n hb6 hg6 hv10
        have c108 : Apart v10' (.slice A12 n12 c12) := a1210.symm.next hv10 u12
        have c109 : Apart v10' v13 := a1310.symm.next hv10 u13
        have h12f := h12b.grown hg6 (fun b hb => ⟨a1210.symm b hb, by simp⟩)
        have h13f := h13b.grown hg6 (fun b hb => ⟨a1310.symm b hb, by simp⟩)
        repeat refine zz ?_
        refine ⟨(i + 1, .slice A12 n12 c12, v13, v10'), ⟨rfl, rfl, rfl, rfl, rfl, rfl, rfl, trivial⟩, ⟨hkc.grown hg6 (fun b hb => (h10b.lt hb).1), by dsimp only; omega, ?_, ?_, ?_, hap, c108.symm, c109.symm⟩, by dsimp only; omega⟩
        · dsimp only; rw [e1]; exact h12f
        · dsimp only; rw [e1]; exact h13f
        · dsimp only; rw [e1]; exact h10n
  · simp at hc
    obtain rfl : n = i := by omega
    rw [← hnx, hst]
    have hdl : ∀ k, (doneP (st.1.take k)).length + (lateP (st.1.take k)).length ≤ 16 := fun k => by
      rw [doneP_len, List.length_take]; omega
    repeat refine zz ?_
    refine o_buildSlice rfl rfl rfl rfl rfl (by intro p hp; cases hp) (by omega) ?_
    intro b17 wc hal17
    have he17 := hal17.b_eq
    have hz17 := hal17.size
    have hd17 : OwnF (idF L U).R wc w.heap.size 67 (.slice (some ⟨b17, 0, none⟩) 0 0) [] [] := OwnF.made hal17.blk (by omega)
    have l8 := fun c hc => (h8.lt (b := c) hc).2
    have l9 := fun c hc => (h9.lt (b := c) hc).2
    have l10 := fun c hc => (h10.lt (b := c) hc).2
    have a8d : Apart (.slice A8 n8 c8) (.slice (some ⟨b17, 0, none⟩) 0 0) := fun c h1 h2 => by have := l8 c h1; simp only [Value.ownBlock, Option.some.injEq] at h2; omega
    have a9d : Apart (.slice A9 n9 c9) (.slice (some ⟨b17, 0, none⟩) 0 0) := fun c h1 h2 => by have := l9 c h1; simp only [Value.ownBlock, Option.some.injEq] at h2; omega
    have a10d : Apart v10 (.slice (some ⟨b17, 0, none⟩) 0 0) := fun c h1 h2 => by have := l10 c h1; simp only [Value.ownBlock, Option.some.injEq] at h2; omega
    replace hka := hka.keep hal17.kp
    replace h8 := h8.keep hal17.kp
    replace h9 := h9.keep hal17.kp
    replace h10 := h10.keep hal17.kp
    have hd0 : doneP (st.1.take 0) = [] := by unfold doneP; simp
    have hl0 : lateP (st.1.take 0) = [] := by unfold lateP; simp
    repeat refine zz ?_
    refine W_loop (S := Nat × Value × Value) (fun s => [(8, .slice A8 n8 c8), (9, .slice A9 n9 c9), (10, s.2.1), (17, s.2.2), (18, .int .i64 (s.1 : Int))]) (fun s w' => Keep w w' ∧ s.1 ≤ n8 ∧ OwnF (idF L U).R w' w.heap.size 67 (.slice A8 n8 c8) (st.1.map fun p => p.1) [] ∧ OwnF boF.R w' w.heap.size 4 (.slice A9 n9 c9) (st.1.map fun p => p.2) [] ∧ OwnF (idF L U).R w' w.heap.size 67 s.2.1 (st.2 ++ lateP (st.1.take s.1)) [] ∧ OwnF (idF L U).R w' w.heap.size 67 s.2.2 (doneP (st.1.take s.1)) [] ∧ Apart (.slice A8 n8 c8) s.2.1 ∧ Apart (.slice A9 n9 c9) s.2.1 ∧ Apart (.slice A8 n8 c8) s.2.2 ∧ Apart (.slice A9 n9 c9) s.2.2 ∧ Apart s.2.1 s.2.2) (fun s => n8 - s.1) (0, _, _) ⟨rfl, rfl, rfl, rfl, rfl, trivial⟩ ⟨hka, by omega, h8, h9, by rw [hl0, List.append_nil]; exact h10, by rw [hd0]; exact hd17, a810, a910, a8d, a9d, a10d⟩ ?_
    clear h8 h9 h10 hd17 a89 a810 a910 a8d a9d a10d s8 s9 hka l8 l9 l10
    rintro ⟨k, v10', vd⟩ wb ⟨hkb, hk, h8, h9, h10, hdd, a810, a910, a8d, a9d, a10d⟩
    dsimp only at hk h8 h9 h10 hdd a810 a910 a8d a9d a10d ⊢
    have hdk := hdl k
    repeat refine zz ?_
    refine W_cond rfl (fun hd => ?_) (fun hd => ?_)
    · have hkl : k < n8 := by simp at hd; omega
      obtain ⟨g8, s8⟩ := h8.slF (by rw [hsz]; decide)
      obtain ⟨g9, s9⟩ := h9.slF (by decide)
      obtain ⟨hA8, hok8, hc8⟩ := Flat.get s8 (i := (k : Int)) (by omega) (by omega)
      obtain ⟨hA9, _, hc9⟩ := Flat.get s9 (i := (k : Int)) (by omega) (by omega)
      rw [gi_fst (by omega)] at hok8 hc8
      rw [gi_snd (by omega)] at hc9
      have hc8 : Cells wb (ea A8 2 (k : Int)) [.int .i64 (gi L ((gi st.1 (k : Int)).1 : Int)).id, U (gi st.1 (k : Int)).1] := hc8
      have hc9 : Cell wb (ea A9 1 (k : Int)) (.bool (gi st.1 (k : Int)).2) := Cells.one hc9
      have hds := done_step (xs := st.1) (k := k) (by omega)
      have hls := late_step (xs := st.1) (k := k) (by omega)
      have hzb := hkb.size_le
      repeat refine zz ?_
      refine W_cond rfl (fun hb => ?_) (fun hb => ?_)
      · rw [if_pos hb] at hds hls
        rw [List.append_nil] at hls
        repeat refine zz ?_
        refine o_buildSlice rfl rfl rfl rfl rfl (by simp [Value.cells]) (by omega) ?_
        intro b5 w5 hal5
        have hz5 := hal5.size
        have hb5 : Blk w5 b5 67 ((idF L U).cf (gi st.1 (k : Int)).1) := by simpa [Value.cells, idF] using hal5.blk
        replace hkb := hkb.keep hal5.kp
        replace h8 := h8.keep hal5.kp
        replace h9 := h9.keep hal5.kp
        replace h10 := h10.keep hal5.kp
        replace hdd := hdd.keep hal5.kp
        have u8 := fun c hc => (h8.lt (b := c) hc).2
        have u9 := fun c hc => (h9.lt (b := c) hc).2
        have u10 := fun c hc => (h10.lt (b := c) hc).2
        repeat refine zz ?_
        refine o_appendG (sz := 2) (R := (idF L U).R) (M := _) (gi := []) rfl rfl rfl rfl rfl (by decide) hdd (Blk.src (xs := [(gi st.1 (k : Int)).1]) hb5 (Flat.single hok8)) rfl (Fresh.nil _ _) (fun b hb => by simp at hb) (fun b hb => (hdd.lt hb).2) (fun b hb => by simp at hb) (by simp only [List.length_cons, List.length_nil]; omega) (by simp only [List.length_cons, List.length_nil]; omega) (by omega) ?_
        intro vN w6 hN hb6 hg6 hvN
        repeat refine zz ?_
        refine ⟨(k + 1, v10', vN), ⟨rfl, rfl, rfl, rfl, rfl, trivial⟩, ⟨hkb.grown hg6 (fun b hb => (hdd.lt hb).1), by dsimp only; omega, h8.grown hg6 (fun b hb => ⟨a8d.symm b hb, by simp⟩), h9.grown hg6 (fun b hb => ⟨a9d.symm b hb, by simp⟩), ?_, ?_, a810, a910, (a8d.symm.next hvN u8).symm, (a9d.symm.next hvN u9).symm, (a10d.symm.next hvN u10).symm⟩, by dsimp only; omega⟩
        · dsimp only; rw [hls]; exact h10.grown hg6 (fun b hb => ⟨a10d.symm b hb, by simp⟩)
        · dsimp only; rw [hds]; exact hN
      · rw [if_neg (by simp [hb])] at hds hls
        rw [List.append_nil] at hds
        repeat refine zz ?_
        refine o_buildSlice rfl rfl rfl rfl rfl (by simp [Value.cells]) (by omega) ?_
        intro b5 w5 hal5
        have hz5 := hal5.size
        have hb5 : Blk w5 b5 67 ((idF L U).cf (gi st.1 (k : Int)).1) := by simpa [Value.cells, idF] using hal5.blk
        replace hkb := hkb.keep hal5.kp
        replace h8 := h8.keep hal5.kp
        replace h9 := h9.keep hal5.kp
        replace h10 := h10.keep hal5.kp
        replace hdd := hdd.keep hal5.kp
        have u8 := fun c hc => (h8.lt (b := c) hc).2
        have u9 := fun c hc => (h9.lt (b := c) hc).2
        have ud := fun c hc => (hdd.lt (b := c) hc).2
        repeat refine zz ?_
        refine o_appendG (sz := 2) (R := (idF L U).R) (M := _) (gi := []) rfl rfl rfl rfl rfl (by decide) h10 (Blk.src (xs := [(gi st.1 (k : Int)).1]) hb5 (Flat.single hok8)) rfl (Fresh.nil _ _) (fun b hb => by simp at hb) (fun b hb => (h10.lt hb).2) (fun b hb => by simp at hb) (by simp only [List.length_append, List.length_cons, List.length_nil]; omega) (by simp only [List.length_append, List.length_cons, List.length_nil]; omega) (by omega) ?_
        intro vN w6 hN hb6 hg6 hvN
        repeat refine zz ?_
        refine ⟨(k + 1, vN, vd), ⟨rfl, rfl, rfl, rfl, rfl, trivial⟩, ⟨hkb.grown hg6 (fun b hb => (h10.lt hb).1), by dsimp only; omega, h8.grown hg6 (fun b hb => ⟨a810.symm b hb, by simp⟩), h9.grown hg6 (fun b hb => ⟨a910.symm b hb, by simp⟩), ?_, ?_, (a810.symm.next hvN u8).symm, (a910.symm.next hvN u9).symm, a8d, a9d, a10d.next hvN ud⟩, by dsimp only; omega⟩
        · dsimp only; rw [hls, ← List.append_assoc]; exact hN
        · dsimp only; rw [hds]; exact hdd.grown hg6 (fun b hb => ⟨a10d b hb, by simp⟩)
    · simp at hd
      obtain rfl : n8 = k := by omega
      have ht8 : st.1.take n8 = st.1 := by rw [hn8, List.take_length]
      rw [ht8] at h10 hdd
      repeat refine zz ?_
      exact ret2 rfl rfl rfl ⟨hkb, vd, v10', rfl, hdd, h10⟩

theorem idsP_eq (L : List Itm) (ps : List Nat) : idsOf (ps.map fun (i : Nat) => gi L (i : Int)) = idsP L ps := by simp [idsOf, idsP]
theorem blockP_step {L : List Itm} {e : List Nod} {win n : Nat} {ps : List Nat} (h : ps.length ≠ 0) : blockP L e win (n + 1) ps = (idsP L (doneP (passN L e win ps ps.length).1) ++ (blockP L e win n ((passN L e win ps ps.length).2 ++ lateP (passN L e win ps ps.length).1)).1,
       (blockP L e win n ((passN L e win ps ps.length).2 ++ lateP (passN L e win ps ps.length).1)).2 + 1) := by rw [blockP, if_neg h]
attribute [local irreducible] blockP

set_option maxHeartbeats 2000000 in
theorem spec_BlockBest_ok {w : World} {v u : Value} {L : List Itm} {e : List Nod} {fp gp : List Nat} (hL : Sl itemR w v L fp) (he : Sl nodeR w u e gp) (q : Int) (hn : e.length + totN e ≤ 1048576) :
    Run Tryz.prog 42 [v, u, .int .i64 q] w (fun r w' => Keep w w' ∧ ∃ x f, r = .tuple #[x, .int .i64 ((blockBest L e q).2 : Int)] ∧ Sl intR w' x (blockBest L e q).1 f ∧ Fresh w.heap.size w' f) := by
  obtain ⟨U, f0, hP, hf0, hB⟩ := items_ix hL
  have dL := hL.dom
  have hsz : (idF L U).sz = 2 := rfl
  obtain ⟨A, n, c, rfl, hnx⟩ := hL.split
  refine Run_intro Tryz.func42 (by unfold CallOk; kernel_rfl) rfl Tryz.ntmps42 (Nat.le_of_ble_eq_true rfl) ?_
  simp only [penv, Nat.reduceAdd, Nat.zero_add]
  repeat refine zz ?_
  refine o_buildSlice rfl rfl rfl rfl rfl (by intro p hp; cases hp) (by omega) ?_
  intro bO wO halO
  have hkO := halO.kp
  have ho0 : OwnF intR wO w.heap.size 3 (.slice (some ⟨bO, 0, none⟩) 0 0) [] [] := OwnF.made halO.blk (by have := halO.b_eq; omega)
  have heO := halO.b_eq
  repeat refine zz ?_
  refine o_call rfl rfl rfl (l7Fine_ok (hL.keep hkO) (he.keep hkO) hn) ?_
  rintro _ w1 ⟨rfl, hk1⟩
  replace ho0 := ho0.keep hk1
  replace hkO := hkO.keep hk1
  have hbad : (fine L e && inR q 1 16) = false → blockBest L e q = ([], 0) := fun h => by rw [blockBest, if_neg (by rw [h]; simp)]
  repeat refine zz ?_
  refine WL_part rfl rfl (fun h1 => ?_) (fun h1 => ?_)
  · repeat refine zz ?_
    obtain ⟨fp, hs, hf⟩ := ho0.sl (by decide)
    simp at h1
    have hd := hbad (by simp [h1])
    exact ret2 rfl rfl rfl ⟨hkO, _, fp, by rw [hd]; rfl, by rw [hd]; exact hs, hf⟩
  simp at h1
  obtain ⟨hit, hln, hex⟩ := fine_ok h1
  repeat refine zz ?_
  refine o_call rfl rfl rfl (l1In_ok _ _ _ _) ?_
  rintro _ _ ⟨rfl, rfl⟩
  repeat refine zz ?_
  refine W_cond rfl (fun h2 => ?_) (fun h2 => ?_)
  · repeat refine zz ?_
    obtain ⟨fp, hs, hf⟩ := ho0.sl (by decide)
    simp only [Bool.not_eq_true'] at h2
    have hd := hbad (by rw [h2, Bool.and_false])
    exact ret2 rfl rfl rfl ⟨hkO, _, fp, by rw [hd]; rfl, by rw [hd]; exact hs, hf⟩
  simp only [Bool.not_eq_false'] at h2
  have hq := inR_iff'.1 h2
  have hT : blockBest L e q = (sortP id (blockP L e q.toNat L.length (List.range L.length)).1, (blockP L e q.toNat L.length (List.range L.length)).2) := by rw [blockBest, if_pos (by rw [h1, h2]; rfl)]
  have hTl := blockP_len L e q.toNat L.length (List.range L.length)
  rw [List.length_range] at hTl
  generalize hTT : blockP L e q.toNat L.length (List.range L.length) = T at hT hTl
  repeat refine zz ?_
  refine W_loop (S := List Nat × Value × Value × Nat × List Int × Nat) (fun s => [(1, u), (2, .int .i64 q), (8, s.2.2.1), (9, s.2.1), (10, .int .i64 (s.2.2.2.1 : Int))]) (fun s w' => Keep w w' ∧ (∃ f, Sl (idF L U).R w' s.2.1 s.1 f ∧ ∀ b, s.2.2.1.ownBlock = some b → b ∉ f) ∧ OwnF intR w' w.heap.size 3 s.2.2.1 s.2.2.2.2.1 [] ∧ (s.1.length ≤ s.2.2.2.2.2 ∧ s.1.length ≤ 16 ∧ s.2.2.2.2.1 ++ (blockP L e q.toNat s.2.2.2.2.2 s.1).1 = T.1 ∧ s.2.2.2.1 + (blockP L e q.toNat s.2.2.2.2.2 s.1).2 = T.2)) (fun s => s.1.length) (List.range L.length, _, _, 0, [], L.length) ⟨rfl, rfl, rfl, rfl, rfl, trivial⟩ ⟨hkO, ⟨f0, hP.keep hkO, fun b hb hm => by have := dL b (hf0 b hm); simp only [Value.ownBlock, Option.some.injEq] at hb; omega⟩, ho0, ⟨by simp, by simp; omega, by dsimp only; rw [hTT]; rfl, by dsimp only; rw [hTT]; omega⟩⟩ ?_
  clear ho0 hkO hk1 heO halO hbad
  rintro ⟨ps, vr, vo, cnt, acc, m⟩ wa ⟨hka, ⟨f, hs, hout⟩, hoa, ⟨hm, h16, hacc, hcnt⟩⟩
  dsimp only at hs hout hoa hm h16 hacc hcnt ⊢
  obtain ⟨Ar, nr, cr, rfl, hnr⟩ := hs.split
  have hal : acc.length ≤ 16 := by have := congrArg List.length hacc; rw [List.length_append] at this; omega
  have hza := hka.size_le
  repeat refine zz ?_
  refine W_cond rfl (fun hc => ?_) (fun hc => ?_)
  · have hp0 : ps.length ≠ 0 := by simp at hc; omega
    obtain ⟨m, rfl⟩ : ∃ k, m = k + 1 := ⟨m - 1, by omega⟩
    have hless := pass_less (L := L) (e := e) (win := q.toNat) (ps := ps) (by omega) hp0
    have hst := passN_len L e q.toNat ps ps.length
    have hdl := doneP_len (passN L e q.toNat ps ps.length).1
    rw [blockP_step hp0] at hacc hcnt
    have hou := fun c hc => (hoa.lt (b := c) hc).2
    repeat refine zz ?_
    refine o_call rfl rfl rfl (l8Pass_ok hs (hB.keep hka) (he.keep hka) hex hit h16 hq) ?_
    rintro _ w2 ⟨hk2, d, o, rfl, hd, ho⟩
    generalize passN L e q.toNat ps ps.length = st at *
    have hka2 := hka.keep hk2
    obtain ⟨fd, sd, gd⟩ := hd.sl (by show 0 < 2; omega)
    obtain ⟨fi, si, _⟩ := ix_items (hB.keep hka2) sd
    rw [show (doneP st.1).map (fun (i : Nat) => gi L (i : Int)) = (doneP st.1).map (fun (i : Nat) => gi L (i : Int)) from rfl] at si
    obtain ⟨fo, so, go⟩ := ho.sl (by show 0 < 2; omega)
    have hoa2 := hoa.keep hk2
    repeat refine zz ?_
    refine o_call rfl rfl rfl (spec_IdsOf_ok si (by rw [List.length_map]; omega)) ?_
    rintro vi w3 ⟨hk3, f3, s3, g3⟩
    rw [idsP_eq] at s3
    obtain ⟨A3, n3, c3, rfl, hn3⟩ := s3.split
    have hoa3 := hoa2.keep hk3
    have so3 := so.keep hk3
    have hout2 : ∀ b, vo.ownBlock = some b → b ∉ fo := fun b hb hm => by have := hou b hb; have := go.ge hm; omega
    have hz3 := (hka2.keep hk3).size_le
    have hil : (idsP L (doneP st.1)).length = (doneP st.1).length := by simp [idsP]
    repeat refine zz ?_
    refine o_appendG (R := intR) (M := _) (gi := []) rfl rfl rfl rfl rfl (by decide) hoa3 s3.srcI hn3 (Fresh.nil _ _) (fun b hb => by simp at hb) (fun b hb => (hoa3.lt hb).2) (fun b hb => by simp at hb) (by omega) (by omega) (by omega) ?_
    intro vN w4 hN hb4 hg4 hvN
    repeat refine zz ?_
    refine ⟨(st.2 ++ lateP st.1, o, vN, cnt + 1, acc ++ idsP L (doneP st.1), m), ⟨rfl, rfl, rfl, rfl, find_int rfl (by dsimp only; omega), trivial⟩, ⟨(hka2.keep hk3).grown hg4 (fun b hb => (hoa3.lt hb).1), ⟨fo, so3.grownN hg4 hout2, out_next so3 hout2 hvN⟩, hN, ⟨by dsimp only; omega, by dsimp only; omega, by dsimp only; rw [List.append_assoc]; exact hacc, by dsimp only; omega⟩⟩, by dsimp only; omega⟩
  · have hp0 : ps.length = 0 := by simp at hc; omega
    obtain rfl := List.eq_nil_of_length_eq_zero hp0
    rw [blockP_nil] at hacc hcnt
    obtain ⟨fo, so, go⟩ := hoa.sl (by decide)
    repeat refine zz ?_
    refine o_call rfl rfl rfl (l8Sort_ok so (by omega)) ?_
    rintro vs w2 ⟨hk2, f2, s2, g2⟩
    repeat refine zz ?_
    simp only [List.append_nil, Nat.add_zero] at hacc hcnt
    exact ret2 rfl rfl rfl ⟨hka.keep hk2, _, f2, by rw [hT, hcnt], by rw [hT, ← hacc]; exact s2, g2.mono hza⟩
end Go.E

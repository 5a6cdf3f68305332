/-
  Contract: the items found by boxes, by the program. Conditions: as stated.
-/
import Derived.Test.YtnlleecmnjnphaaGreatTd
import Derived.Test.YtnlleecmnjnphaaGreatM2
set_option linter.unusedVariables false
set_option linter.unusedSimpArgs false
namespace Go.E
open Go Go.RowKit Go.Proofs
attribute [local irreducible] W WL WD WE thenE inE retQ PureOp Keep Cell Cells Blk Sl Rows Own Src Fresh
attribute [local irreducible] boxP isFieldList areItems

set_option maxHeartbeats 1000000 in
theorem impl_IdsOf_own {w : World} {v : Value} {L : List Itm} {fp : List Nat} (hx : Sl itemR w v L fp) (hn : L.length ≤ 1048576) : Run Tryz.prog 37 [v] w (fun r w' => Keep w w' ∧ OwnF intR w' w.heap.size 3 r (idsOf L) [] ∧ r.ownBlock.isSome = true) := by
  obtain ⟨A, n, c, rfl, hnx⟩ := hx.split
  refine Run_intro Tryz.func37 (by unfold CallOk; kernel_rfl) rfl Tryz.ntmps37 (Nat.le_of_ble_eq_true rfl) ?_
  simp only [penv, Nat.reduceAdd, Nat.zero_add]
  repeat refine zz ?_
  refine o_buildSlice rfl rfl rfl rfl rfl (by intro p hp; cases hp) (by omega) ?_
  intro b0 w1 hal
  have hk1 := hal.kp
  have ho1 : OwnF intR w1 w.heap.size 3 (.slice (some ⟨b0, 0, none⟩) 0 0) [] [] := OwnF.made hal.blk (by have := hal.b_eq; omega)
  repeat refine zz ?_
  refine W_loop (S := Nat × Value) (fun s => [(0, .slice A n c), (3, s.2), (7, .slice A n c), (8, .int .i64 n), (9, .int .i64 (s.1 : Int))]) (fun s w' => Keep w w' ∧ s.1 ≤ n ∧ OwnF intR w' w.heap.size 3 s.2 (idsOf (L.take s.1)) [] ∧ s.2.ownBlock.isSome = true) (fun s => n - s.1) (0, _) ⟨rfl, rfl, rfl, rfl, rfl, trivial⟩ ⟨hk1, by omega, by simpa [idsOf] using ho1, rfl⟩ ?_
  rintro ⟨k, va⟩ wa ⟨hka, hk, hoa, hsome⟩
  dsimp only at hk hoa hsome ⊢
  replace hx := hx.keep hka
  repeat refine zz ?_
  refine W_cond rfl (fun hc => ?_) (fun hc => ?_)
  · have hkn : k < n := by simp at hc; omega
    obtain ⟨hA, u, f1, hcell, hu, _⟩ := item_get hx (i := (k : Int)) (by omega) (by omega)
    have hl : (idsOf (L.take k)).length ≤ 1048576 := by rw [idsOf_len, List.length_take]; omega
    repeat refine zz ?_
    refine o_alloc rfl rfl ?_
    intro b2 w2 hal2
    have hb2 := hal2.blk
    have hs2 := hal2.b_eq
    have hz2 := hal2.size
    have hsz := hka.size_le
    have hoa0 := hoa
    replace hka := hka.keep hal2.kp
    replace hoa := hoa.keep hal2.kp
    repeat refine zz ?_
    refine o_storeS (b := b2) (off := 0) rfl rfl rfl rfl (fun v hv => ?_) rfl hb2 (by simp) ?_
    · simp only [List.mem_cons, List.not_mem_nil, or_false] at hv
      rcases hv with rfl | rfl
      · rfl
      · exact hu.oneCell
    intro w3 hu3
    have hb3 : Blk w3 b2 _ [.int .i64 (gi L (k : Int)).id, u] := hu3.blk
    have hz3 := hu3.size
    replace hka := hka.upd hu3 (by omega)
    replace hoa := hoa.upd hu3 (fun e => by have := (hoa0.lt e).2; omega) (fun hm => by simp at hm)
    repeat refine zz ?_
    refine o_buildSlice rfl rfl rfl rfl rfl (by simp [Value.cells]) (by omega) ?_
    intro b4 w4 hal4
    have hkb : Keep w w4 := hka.keep hal4.kp
    have hsz4 := hal4.size
    have hob := hoa.keep hal4.kp
    repeat refine zz ?_
    refine o_appendG (R := intR) (M := w3.heap.size) (gi := []) rfl rfl rfl rfl rfl (by decide) hob (Blk.src (xs := [(gi L (k : Int)).id]) hal4.blk (Rows.ints _ _)) rfl (Fresh.nil _ _) (fun b hb => by simp at hb) (fun b hb => (hoa.lt hb).2) (fun b hb => by simp at hb) (by simp only [List.length_cons, List.length_nil]; omega) (by simp only [List.length_cons, List.length_nil]; omega) (by omega) ?_
    intro v5 w5 ho5 hb5 hg5 hv5
    have hk5 := hkb.below hb5 (Nat.le_refl _)
    repeat refine zz ?_
    exact ⟨(k + 1, v5), ⟨rfl, rfl, rfl, rfl, rfl, trivial⟩, ⟨hk5, by dsimp only; omega, by dsimp only; rw [take_ids (by omega)]; exact ho5, by
      dsimp only
      rcases hv5 with h | h
      · rw [h]; exact hsome
      · rw [h]; rfl⟩, by dsimp only; omega⟩
  · simp at hc
    obtain rfl : k = n := by omega
    rw [List.take_of_length_le (show L.length ≤ k by omega)] at hoa
    repeat refine zz ?_
    exact ret1 rfl rfl ⟨hka, hoa, hsome⟩

set_option maxHeartbeats 4000000 in
theorem impl_BoxBest_ok {w : World} {v u : Value} {L : List Itm} {f : List Int} {fp gp : List Nat} (hL : Sl itemR w v L fp) (hf : Sl intR w u f gp) :
    Run Tryz.prog 8 [v, u] w (fun r w' => Keep w w' ∧ ∃ x h, r = .tuple #[x, .int .i64 (boxBest L f).2] ∧ Sl intR w' x (boxBest L f).1 h ∧ Fresh w.heap.size w' h) := by
  have hdL := hL.dom
  have hdf := hf.dom
  have oL := hL.oneCell
  have of := hf.oneCell
  have hL0 := hL
  have hf0 := hf
  obtain ⟨B, nf, cf_, rfl, hlf⟩ := hf.split
  refine Run_intro Tryz.func8 (by unfold CallOk; kernel_rfl) rfl Tryz.ntmps8 (Nat.le_of_ble_eq_true rfl) ?_
  simp only [penv, Nat.reduceAdd, Nat.zero_add]
  repeat refine zz ?_
  refine o_box rfl rfl rfl ?_
  intro b3 w1 hal3
  have hb3 : Blk w1 b3 25 [.slice B nf cf_] := by simpa [Value.cells] using hal3.blk
  have e3 := hal3.b_eq
  have hk := hal3.kp
  have c3 := hb3.cell (i := 0) (v := .slice B nf cf_) rfl
  repeat refine zz ?_
  refine o_call rfl rfl rfl (impl_IsFieldList_ok (hf0.keep hk)) ?_
  rintro _ _ ⟨rfl, rfl⟩
  repeat refine zz ?_
  refine WL_part rfl rfl (fun h1 => ?_) (fun h1 => ?_)
  · simp at h1
    have hsb : boxBest L f = ([], 0) := by unfold boxBest; rw [h1, Bool.and_false]; rfl
    repeat refine zz ?_
    refine o_buildSlice rfl rfl rfl rfl rfl (by intro p hp; cases hp) (by omega) ?_
    intro bO wO halO
    have hkO := halO.kp
    have ho : OwnF intR wO w.heap.size 3 (.slice (some ⟨bO, 0, none⟩) 0 0) [] [] := OwnF.made halO.blk (by have := halO.b_eq; have := hk.size_le; omega)
    obtain ⟨fO, hsO, hfO⟩ := ho.sl (by decide)
    repeat refine zz ?_
    exact ret2 rfl rfl rfl ⟨hk.keep hkO, _, fO, by rw [hsb], by rw [hsb]; exact hsO, hfO⟩
  simp at h1
  repeat refine zz ?_
  refine o_call rfl rfl rfl (impl_AreItems_ok (hL0.keep hk)) ?_
  rintro _ w3 ⟨rfl, k3⟩
  replace hk := hk.keep k3
  replace hb3 := hb3.keep k3
  repeat refine zz ?_
  refine W_cond rfl (fun h2 => ?_) (fun h2 => ?_)
  · simp at h2
    have hsb : boxBest L f = ([], 0) := by unfold boxBest; rw [h2]; rfl
    repeat refine zz ?_
    refine o_buildSlice rfl rfl rfl rfl rfl (by intro p hp; cases hp) (by omega) ?_
    intro bO wO halO
    have hkO := halO.kp
    have ho : OwnF intR wO w.heap.size 3 (.slice (some ⟨bO, 0, none⟩) 0 0) [] [] := OwnF.made halO.blk (by have := halO.b_eq; have := hk.size_le; omega)
    obtain ⟨fO, hsO, hfO⟩ := ho.sl (by decide)
    repeat refine zz ?_
    exact ret2 rfl rfl rfl ⟨hk.keep hkO, _, fO, by rw [hsb], by rw [hsb]; exact hsO, hfO⟩
  simp at h2
  have hsb : boxBest L f = (sortP id (idsOf (boxP f L.length L 0 ([], 0)).1), ((boxP f L.length L 0 ([], 0)).2 : Int)) := by unfold boxBest; rw [h1, h2]; rfl
  rw [hsb]
  dsimp only
  obtain ⟨hit, hl16⟩ := areItems_at h2
  have hiM : ∀ x, x ∈ L → isItem x = true := fun x hx => by
    obtain ⟨i, hi, rfl⟩ := List.getElem_of_mem hx
    have := hit i hi
    rwa [gi_lt hi] at this
  have q3 := hb3.lt
  have q0 := hk.size_le
  repeat refine zz ?_
  refine o_buildSlice rfl rfl rfl rfl rfl (by intro p hp; cases hp) (by omega) ?_
  intro bO wO halO
  have hkO := halO.kp
  have eO := halO.b_eq
  have sO := halO.size
  have hoF : OwnF ivF.R wO bO 45 (.slice (some ⟨bO, 0, none⟩) 0 0) [] [] := OwnF.made halO.blk (Nat.le_refl _)
  replace hk := hk.keep hkO
  replace hb3 := hb3.keep hkO
  clear halO
  repeat refine zz ?_
  refine o_alloc rfl rfl ?_
  intro b6 w6 hal6
  have e6 := hal6.b_eq
  have s6 := hal6.size
  have hb60 := hal6.blk
  replace hk := hk.keep hal6.kp
  replace hb3 := hb3.keep hal6.kp
  replace hoF := hoF.keep hal6.kp
  repeat refine zz ?_
  refine o_store1 (b := b6) (off := 0) rfl rfl rfl rfl rfl hb60 (by simp) ?_
  intro w7 hu7
  have hb6 : Blk w7 b6 24 [.slice (some ⟨bO, 0, none⟩) 0 0] := hu7.blk
  have s7 := hu7.size
  replace hk := hk.upd hu7 (by omega)
  replace hb3 := hb3.upd hu7 (by omega)
  replace hoF := hoF.upd hu7 (by simp [Value.ownBlock]; omega) (by simp)
  clear hu7 hb60 hal6
  repeat refine zz ?_
  refine o_alloc rfl rfl ?_
  intro b7 w8 hal7
  have e7 := hal7.b_eq
  have s8 := hal7.size
  have hb70 := hal7.blk
  replace hk := hk.keep hal7.kp
  replace hb3 := hb3.keep hal7.kp
  replace hoF := hoF.keep hal7.kp
  replace hb6 := hb6.keep hal7.kp
  repeat refine zz ?_
  refine o_store1 (b := b7) (off := 0) rfl rfl rfl rfl rfl hb70 (by simp) ?_
  intro w9 hu9
  have hb7 : Blk w9 b7 3 [.int .i64 ((0 : Nat) : Int)] := hu9.blk
  have s9 := hu9.size
  replace hk := hk.upd hu9 (by omega)
  replace hb3 := hb3.upd hu9 (by omega)
  replace hb6 := hb6.upd hu9 (by omega)
  replace hoF := hoF.upd hu9 (by simp [Value.ownBlock]; omega) (by simp)
  clear hu9 hb70 hal7
  repeat refine zz ?_
  refine o_alloc rfl rfl ?_
  intro b4 w10 hal4
  have e4 := hal4.b_eq
  have s10 := hal4.size
  have hb40 := hal4.blk
  replace hk := hk.keep hal4.kp
  replace hb3 := hb3.keep hal4.kp
  replace hoF := hoF.keep hal4.kp
  replace hb6 := hb6.keep hal4.kp
  replace hb7 := hb7.keep hal4.kp
  repeat refine zz ?_
  refine WL_pure rfl rfl (o_makeFunc rfl rfl) ?_
  repeat refine zz ?_
  refine o_store1 (b := b4) (off := 0) rfl rfl rfl rfl rfl hb40 (by simp) ?_
  intro w11 hu11
  have hb4 : Blk w11 b4 49 [.func (.func 29) ([] : List Value).toArray ([.pointer (some ⟨b6, 0, none⟩), .pointer (some ⟨b3, 0, none⟩), .pointer (some ⟨b4, 0, none⟩), .pointer (some ⟨b7, 0, none⟩)] : List Value).toArray] := hu11.blk
  have s11 := hu11.size
  replace hk := hk.upd hu11 (by omega)
  replace hb3 := hb3.upd hu11 (by omega)
  replace hb6 := hb6.upd hu11 (by omega)
  replace hb7 := hb7.upd hu11 (by omega)
  replace hoF := hoF.upd hu11 (by simp [Value.ownBlock]; omega) (by simp)
  clear hu11 hb40 hal4
  have hSt : BoxSt w11 bO b6 b3 b4 b7 (.slice B nf cf_) f gp [] 0 (.slice (some ⟨bO, 0, none⟩) 0 0) bO [] :=
    ⟨hb6, hb7, hb3, hb4, hf0.keep hk, hoF, rfl, fun p hp => (by cases hp), ⟨by simp, by simp, by simp⟩, fun c hc => (by cases hc), fun p hp => (by cases hp), ⟨by omega, by omega, by omega, by omega⟩, ⟨fun hm => by have := hdf _ hm; omega, fun hm => by have := hdf _ hm; omega, fun hm => by have := hdf _ hm; omega⟩, ⟨by omega, by omega, by omega, by omega, by omega⟩⟩
  have c4 := hSt.c4.cell (i := 0) rfl
  repeat refine zz ?_
  refine o_callv rfl rfl rfl rfl (open_ok h1 L.length (d := 0) (hL0.keep hk) hSt ⟨fun hm => by have := hdL _ hm; omega, fun hm => by have := hdL _ hm; omega, fun hm => by have := hdL _ hm; omega⟩ (Nat.le_refl _) hl16 (by simp only [List.length_nil]; omega) (by omega) (by omega) (by omega) hiM) ?_
  rintro _ w12 ⟨rfl, zs, vF, bN, g, hSe, he, _, hW⟩
  have hkw : Keep w w12 := hW.keep hk (fun c hc => by
    simp only [List.mem_cons, List.not_mem_nil, or_false] at hc
    omega)
  rw [List.map_nil] at he hSe
  have hbd := boxP_bd f L.length L 0 ([], 0)
  simp only [List.length_nil] at hbd
  generalize boxP f L.length L 0 ([], 0) = S at *
  obtain ⟨fv, hsv, _⟩ := hSe.own.sl (by decide)
  obtain ⟨fI, hsI, _⟩ := iv_items hSe.beh hsv
  rw [he] at hsI
  have c6 := hSe.c6.cell (i := 0) rfl
  have z12 := hkw.size_le
  repeat refine zz ?_
  refine o_call rfl rfl rfl (impl_IdsOf_own hsI (by omega)) ?_
  rintro vi w13 ⟨k13, hoi, hsome⟩
  obtain ⟨bi, hbi⟩ := Option.isSome_iff_exists.1 hsome
  have hb7e := hSe.c7.keep k13
  have l7 := hSe.c7.lt
  have hri := (hoi.lt hbi).1
  repeat refine zz ?_
  refine o_call rfl rfl rfl (slices_Sort_ok hoi hbi (by rw [idsOf_len]; omega)) ?_
  rintro _ w14 ⟨rfl, hg14, ho14⟩
  replace hb7e := hb7e.grown hg14 (fun e => by simp only [Option.some.injEq] at e; omega)
  obtain ⟨fs, hss, hfs⟩ := ho14.sl (by decide)
  have hkz : Keep w w14 := (hkw.keep k13).grown hg14 (fun c hc => by simp only [Option.some.injEq] at hc; omega)
  repeat refine zz ?_
  have hSd : Keep w14 (World.drew w14) := Keep.drew w14
  have hSb : Blk (World.drew w14) b7 3 [.int .i64 (S.2 : Int)] := hb7e.keep hSd
  refine W_draw (fun w' => Blk w' b7 3 [.int .i64 (S.2 : Int)]) (by kernel_rfl) ?_
  refine WD_take 0 rfl (by kernel_rfl) (by kernel_rfl) (by kernel_rfl) (by repeat (first | exact np_ret | refine np_then ?_ | refine np_in ?_)) rfl rfl (fun w' _ => o_move rfl) hSb ?_
  refine WD_take 1 rfl (by kernel_rfl) (by kernel_rfl) (by kernel_rfl) (by repeat (first | exact np_ret | refine np_then ?_ | refine np_in ?_)) rfl rfl (fun w' hw' => o_load rfl (hw'.cell (i := 0) rfl)) hSb ?_
  refine WD_take 2 rfl (by kernel_rfl) (by kernel_rfl) (by kernel_rfl) (by repeat (first | exact np_ret | refine np_then ?_ | refine np_in ?_)) rfl rfl (fun w' _ => o_assign rfl) hSb ?_
  refine WD_take 3 rfl (by kernel_rfl) (by kernel_rfl) (by kernel_rfl) (by repeat (first | exact np_ret | refine np_then ?_ | refine np_in ?_)) rfl rfl (fun w' _ => o_assign rfl) hSb ?_
  refine WD_done (by kernel_rfl) ?_
  repeat refine zz ?_
  exact ret2 rfl rfl rfl ⟨hkz.keep hSd, _, fs, rfl, hss.keep hSd, (hfs.mono z12).keep hSd⟩
end Go.E

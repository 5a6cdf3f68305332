/-
  Contracts: going through boxes of items, by the reference. Conditions: as stated.
-/
import Derived.Test.YtomkdoppjimhoaaT8
import Derived.Test.YtomkdoppjimhoaaCu
set_option linter.unusedVariables false
set_option linter.unusedSimpArgs false
namespace Go.E
open Go Go.RowKit Go.Proofs
theorem flt_step {α : Type} [Inhabited α] {p : α → Bool} {xs : List α} {k : Nat} (h : k < xs.length) : (xs.take (k + 1)).filter p = (xs.take k).filter p ++ (if p (gi xs (k : Int)) then [gi xs (k : Int)] else []) := by
  rw [take_gi h, List.filter_append]
  congr 1
  by_cases hs : p (gi xs (k : Int)) = true
  · rw [if_pos hs]; simp [hs]
  · rw [if_neg hs]; simp [hs]
theorem rem_nat (a b : Nat) : Int.tmod (a : Int) (b : Int) = ((a % b : Nat) : Int) := by
  rw [Int.tmod_eq_emod_of_nonneg (by omega)]; rfl
theorem quo_nat (a b : Nat) : Int.tdiv (a : Int) (b : Int) = ((a / b : Nat) : Int) := by
  rw [Int.tdiv_eq_ediv_of_nonneg (by omega)]; rfl
theorem half16 (k : Nat) (h : k ≤ 1048576) : IntKind.i64.wrap ((k : Int).tdiv 2) = ((k / 2 : Nat) : Int) := by
  rw [show (2 : Int) = ((2 : Nat) : Int) from rfl, quo_nat, wrap_i64 (by omega) (by omega)]
theorem items_hit {M : List Itm} (h : ∀ x, x ∈ M → isItem x = true) : ∀ i : Nat, i < M.length → isItem (gi M (i : Int)) = true := fun i hi => h _ (gi_mem hi)
theorem items_3 {M : List Itm} (h : ∀ x, x ∈ M → isItem x = true) : ∀ i : Nat, i < M.length → (gi M (i : Int)).vals.length = 3 := fun i hi => isItem_len (h _ (gi_mem hi))
theorem addB_item {f : List Int} {F : List Itm} {x : Itm} (h : ∀ y, y ∈ F → isItem y = true) (hx : isItem x = true) : ∀ y, y ∈ addB f F x → isItem y = true := fun y hy => by
  unfold addB at hy
  split at hy
  · exact h y hy
  · rcases List.mem_append.1 hy with hy | hy
    · exact h y (List.mem_filter.1 hy).1
    · rw [List.mem_singleton] at hy; rw [hy]; exact hx
theorem leafN_item {f : List Int} {M : List Itm} {S : List Itm × Nat} (hM : ∀ x, x ∈ M → isItem x = true) (hS : ∀ y, y ∈ S.1 → isItem y = true) : ∀ k, k ≤ M.length → ∀ y, y ∈ (leafN f M S k).1 → isItem y = true
  | 0, _ => hS
  | k + 1, hk => addB_item (leafN_item hM hS k (by omega)) (hM _ (gi_mem (by omega)))
theorem boxP_item {f : List Int} : ∀ (N : Nat) (M : List Itm) (d : Nat) (S : List Itm × Nat), (∀ x, x ∈ M → isItem x = true) → (∀ y, y ∈ S.1 → isItem y = true) → ∀ y, y ∈ (boxP f N M d S).1 → isItem y = true
  | 0, M, d, S, _, hS => hS
  | N + 1, M, d, S, hM, hS => by
    rw [boxP]
    split
    · exact hS
    split
    · exact hS
    split
    · refine boxP_item N _ _ _ (fun x hx => hM x (byF_sub.1 (List.mem_of_mem_drop hx))) (boxP_item N _ _ _ (fun x hx => hM x (byF_sub.1 (List.mem_of_mem_take hx))) hS)
    · exact leafN_item hM hS _ (Nat.le_refl _)
def ApartV (v u : Value) : Prop := ∀ c, v.ownBlock = some c → u.ownBlock ≠ some c
attribute [local irreducible] W WL WD WE thenE inE retQ PureOp Keep Cell Cells Blk Sl Rows Own Src Fresh
attribute [local irreducible] crn lwr byF ordL boxP cutN

set_option maxHeartbeats 8000000 in
theorem l9Box_ok {f : List Int} (hff : isFieldList f = true) : ∀ (N : Nat) {w : World} {v u vF : Value} {M F : List Itm} {fm gp ff : List Nat} {d n : Nat} (hM : Sl itemR w v M fm) (hf : Sl intR w u f gp) (hF : Sl itemR w vF F ff)
    (hMN : M.length ≤ N) (h16 : M.length ≤ 16) (hFl : F.length + M.length ≤ 64) (hn : n + M.length ≤ 1000) (hd : d + N ≤ 100) (hiM : ∀ x, x ∈ M → isItem x = true) (hiF : ∀ x, x ∈ F → isItem x = true),
    Run Try.prog 89 [v, u, .int .i64 (d : Int), vF, .int .i64 (n : Int)] w (fun r w' => Keep w w' ∧ ∃ x h, r = .tuple #[x, .int .i64 ((boxP f N M d (F, n)).2 : Int)] ∧ Sl itemR w' x (boxP f N M d (F, n)).1 h) := by
  intro N
  induction N with
  | zero =>
    intro w v u vF M F fm gp ff d n hM hf hF hMN h16 hFl hn hd hiM hiF
    obtain ⟨A, nM, cM, rfl, hlM⟩ := hM.split
    have hb : boxP f 0 M d (F, n) = (F, n) := by unfold boxP; rfl
    rw [hb]
    have h0 : nM = 0 := by omega
    subst h0
    refine Run_intro Try.func89 (by unfold CallOk; kernel_rfl) rfl Try.ntmps89 (Nat.le_of_ble_eq_true rfl) ?_
    simp only [penv, Nat.reduceAdd, Nat.zero_add]
    repeat refine zz ?_
    exact ret2 rfl rfl rfl ⟨Keep.refl _, _, ff, rfl, hF⟩
  | succ N ih =>
    intro w v u vF M F fm gp ff d n hM hf hF hMN h16 hFl hn hd hiM hiF
    have hdM := hM.dom
    have hdF := hF.dom
    have oF := hF.oneCell
    have hnf3 := fieldList_len hff
    have hnf0 : 0 < f.length := by simp only [isFieldList, Bool.and_eq_true, decide_eq_true_eq] at hff; exact hff.2
    obtain ⟨A, nM, cM, rfl, hlM⟩ := hM.split
    obtain ⟨B, nf, cf_, rfl, hlf⟩ := hf.split
    obtain ⟨C, nF, cF, rfl, hlF⟩ := hF.split
    refine Run_intro Try.func89 (by unfold CallOk; kernel_rfl) rfl Try.ntmps89 (Nat.le_of_ble_eq_true rfl) ?_
    simp only [penv, Nat.reduceAdd, Nat.zero_add]
    repeat refine zz ?_
    refine W_cond rfl (fun hc0 => ?_) (fun hc0 => ?_)
    · simp at hc0
      rw [box_nil (by omega)]
      repeat refine zz ?_
      exact ret2 rfl rfl rfl ⟨Keep.refl _, _, ff, rfl, hF⟩
    simp at hc0
    have hM0 : M.length ≠ 0 := by omega
    repeat refine zz ?_
    refine o_call rfl rfl rfl (l9Corner_ok hM (by omega) h16 (items_3 hiM)) ?_
    rintro vc w1 ⟨hk, fc, hC, _⟩
    have hlc := crn_len (items_3 hiM) (by omega) M.length (Nat.le_refl _)
    have hcut : cut f F (crn M M.length) = cutN f F (crn M M.length) F.length := rfl
    repeat refine zz ?_
    refine W_loop (S := Nat) (fun i => [(0, .slice A nM cM), (1, .slice B nf cf_), (2, .int .i64 (d : Int)), (3, .slice C nF cF), (4, .int .i64 (n : Int)), (12, vc), (13, .int .i64 (i : Int))]) (fun i w' => Keep w w' ∧ i ≤ nF ∧ Sl intR w' vc (crn M M.length) fc ∧ cutN f F (crn M M.length) i = false) (fun i => nF - i) 0 ⟨rfl, rfl, rfl, rfl, rfl, rfl, rfl, trivial⟩ ⟨hk, Nat.zero_le _, hC, by unfold cutN; rfl⟩ ?_
    clear hk hC
    rintro i wa ⟨hka, hi, hC, hcN⟩
    have hFa := hF.keep hka
    have hfa := hf.keep hka
    repeat refine zz ?_
    refine W_cond rfl (fun hc1 => ?_) (fun hc1 => ?_)
    · simp at hc1
      have hin : i < nF := by omega
      obtain ⟨hA, u1, f1, hcell1, hu1, _⟩ := item_get hFa (i := (i : Int)) (by omega) (by omega)
      have hs := cutN_succ f F (crn M M.length) i
      rw [hcN, Bool.false_or] at hs
      repeat refine zz ?_
      refine o_call rfl rfl rfl (l9Below_ok hu1 hC hfa (items_3 hiF i (by omega)) hlc hff) ?_
      rintro _ wb ⟨rfl, kb⟩
      replace hka := hka.keep kb
      replace hC := hC.keep kb
      repeat refine zz ?_
      refine W_cond rfl (fun hc2 => ?_) (fun hc2 => ?_)
      · have hct : cut f F (crn M M.length) = true := by
          rw [cut_iff]; exact ⟨_, gi_mem (by omega), hc2⟩
        rw [box_cut hM0 hct]
        repeat refine zz ?_
        exact ret2 rfl rfl rfl ⟨hka, _, ff, rfl, hF.keep hka⟩
      · repeat refine zz ?_
        exact ⟨i + 1, ⟨rfl, rfl, rfl, rfl, rfl, rfl, rfl, trivial⟩, ⟨hka, by omega, hC, by rw [hs]; exact hc2⟩, by omega⟩
    · simp at hc1
      have hiF' : i = F.length := by omega
      have hct : cut f F (crn M M.length) = false := by rw [hcut, ← hiF']; exact hcN
      clear hcN hC
      repeat refine zz ?_
      refine W_cond rfl (fun hc3 => ?_) (fun hc3 => ?_)
      · simp at hc3
        have h2M : 2 < M.length := by omega
        rw [box_more hct h2M]
        have hkl : d % f.length < f.length := Nat.mod_lt _ hnf0
        generalize hkk : d % f.length = kk at *
        have hfk := field_at hff hkl
        have hMa := hM.keep hka
        have hfa := hf.keep hka
        obtain ⟨hB, hcf⟩ := hfa.getI (i := (kk : Int)) (by omega) (by omega)
        generalize hkf : gi f (kk : Int) = kf at *
        repeat refine zz ?_
        refine WL_pure rfl rfl (o_rem rfl rfl (by omega)) ?_
        rw [rem_nat, hlf, hkk, ← hlf]
        repeat refine zz ?_
        refine o_call rfl rfl rfl (l9Order_ok hMa h16 (items_3 hiM) hfk) ?_
        rintro vo wo ⟨ko, fo, hso, hfo⟩
        have eo : sortP (fun i => fval kf (gi M i)) (iota 0 M.length) = ordL M kf := by unfold ordL; rfl
        rw [eo] at hso
        replace hka := hka.keep ko
        have hP : ∀ i : Nat, i < nM → gi (byF M kf) (i : Int) = gi M (gi (ordL M kf) (i : Int)) := fun i hi => byF_at (by omega)
        have hPl : (byF M kf).length = nM := by rw [byF_len]; omega
        have hOl : (ordL M kf).length = nM := by rw [ordL_len]; omega
        have hOr : ∀ i : Nat, i < nM → 0 ≤ gi (ordL M kf) (i : Int) ∧ gi (ordL M kf) (i : Int) < nM := fun i hi => by have := ord_at (L := M) (k := kf) (n := i) (by omega); omega
        have hPs : ∀ x, x ∈ byF M kf → isItem x = true := fun x hx => hiM x (byF_sub.1 hx)
        generalize byF M kf = P at *
        generalize ordL M kf = O at *
        have hdO := hso.dom
        have zo := hka.size_le
        obtain ⟨Ao, no, co, rfl, hno⟩ := hso.split
        have hnoM : no = nM := by omega
        subst hnoM
        have hh : no / 2 ≤ no := by omega
        rw [← hlM]
        generalize hhd : no / 2 = h at *
        repeat refine zz ?_
        refine o_buildSlice rfl rfl rfl rfl rfl (by intro p hp; cases hp) (by omega) ?_
        intro bO wO halO
        have hkO := halO.kp
        have zO := halO.b_eq
        have sO := halO.size
        have ho1 : Own itemR wO wo.heap.size 90 (.slice (some ⟨bO, 0, none⟩) 0 0) [] [] := Own.made halO.blk (by simp) (Nat.zero_le _) (by omega)
        have hkx : Keep wo wO := hkO
        replace hso := hso.keep hkO
        clear halO hkO
        repeat refine zz ?_
        refine o_buildSlice rfl rfl rfl rfl rfl (by intro p hp; cases hp) (by omega) ?_
        intro bQ wQ halQ
        have hkQ := halQ.kp
        have zQ := halQ.b_eq
        have sQ := halQ.size
        have ho2 : Own itemR wQ wo.heap.size 90 (.slice (some ⟨bQ, 0, none⟩) 0 0) [] [] := Own.made halQ.blk (by simp) (Nat.zero_le _) (by omega)
        replace hkx := hkx.keep hkQ
        replace hso := hso.keep hkQ
        replace ho1 := ho1.keep hkQ
        clear halQ hkQ
        repeat refine zz ?_
        refine W_loop (S := Nat × Value × Value) (fun s => [(0, .slice A no cM), (1, .slice B nf cf_), (2, .int .i64 (d : Int)), (3, .slice C nF cF), (4, .int .i64 (n : Int)), (14, .slice Ao no co), (15, s.2.1), (16, s.2.2), (17, .int .i64 (s.1 : Int))])
          (fun s w' => Keep wo w' ∧ s.1 ≤ no ∧ Sl intR w' (.slice Ao no co) O fo ∧ (∃ fl, Own itemR w' wo.heap.size 90 s.2.1 (P.take (min s.1 h)) fl ∧ ∀ c, c ∈ fl → c < w.heap.size) ∧ (∃ fl, Own itemR w' wo.heap.size 90 s.2.2 ((P.take s.1).drop h) fl ∧ ∀ c, c ∈ fl → c < w.heap.size) ∧ ApartV s.2.1 s.2.2) (fun s => no - s.1) (0, _, _)
          ⟨rfl, rfl, rfl, rfl, rfl, rfl, rfl, rfl, rfl, trivial⟩ ⟨hkx, Nat.zero_le _, hso, ⟨[], by simpa using ho1, fun c hc => by cases hc⟩, ⟨[], by simpa using ho2, fun c hc => by cases hc⟩, fun c h1 h2 => by simp [Value.ownBlock] at h1 h2; omega⟩ ?_
        clear hkx hso ho1 ho2 hMa hfa hcf
        rintro ⟨i, va, vb⟩ wb ⟨hkb, hi, hsb, ⟨fl, hoa, hla⟩, ⟨fh, hob, hlb⟩, hap⟩
        dsimp only at hi hoa hob hap ⊢
        have hMb := (hM.keep hka).keep hkb
        have zb := hkb.size_le
        have ra := fun c hc => hoa.lt (b := c) hc
        have rb := fun c hc => hob.lt (b := c) hc
        repeat refine zz ?_
        refine W_cond rfl (fun hc4 => ?_) (fun hc4 => ?_)
        · simp at hc4
          have hin : i < no := by omega
          obtain ⟨hAo, hco⟩ := hsb.getI (i := (i : Int)) (by omega) (by omega)
          have hor := hOr i hin
          obtain ⟨hA, u1, f1, hcell1, hu1, hsub1⟩ := item_get hMb (i := gi O (i : Int)) (by omega) (by omega)
          have o1 := hu1.oneCell
          have hd1 := hu1.dom
          have l1 : (P.take (min i h)).length ≤ 16 := by rw [List.length_take]; omega
          have l2 : ((P.take i).drop h).length ≤ 16 := by rw [List.length_drop, List.length_take]; omega
          have htk := take_gi (xs := P) (k := i) (by omega)
          repeat refine zz ?_
          refine WL_pure rfl rfl (o_quo rfl rfl (by decide)) ?_
          rw [half16 no (by omega), hhd]
          repeat refine zz ?_
          refine W_cond rfl (fun hc5 => ?_) (fun hc5 => ?_)
          · simp at hc5
            have hih : i < h := by omega
            repeat refine zz ?_
            refine o_buildSlice rfl rfl rfl rfl rfl (by simp [Value.cells]) (by omega) ?_
            intro b8 w8 hal8
            have hb8 : Blk w8 b8 90 [.int .i64 (gi M (gi O (i : Int))).id, u1] := by simpa [Value.cells] using hal8.blk
            have z8 := hal8.size
            replace hkb := hkb.keep hal8.kp
            replace hsb := hsb.keep hal8.kp
            replace hoa := hoa.keep hal8.kp
            replace hob := hob.keep hal8.kp
            replace hu1 := hu1.keep hal8.kp
            repeat refine zz ?_
            refine o_append (R := itemR) (gi := f1) rfl rfl rfl rfl rfl (by decide) hoa (Blk.src (xs := [gi M (gi O (i : Int))]) hb8 (Rows.single (R := itemR) ⟨_, rfl, hu1⟩)) rfl (fun c hc => ⟨fun hm => by have := hla c hm; have := (ra c hc).1; omega, fun hm => by have := hdM c (hsub1 c hm); have := (ra c hc).1; omega⟩) (by simp only [List.length_cons, List.length_nil]; omega) (by simp only [List.length_cons, List.length_nil]; omega) (by omega) ?_
            intro v9 w9 ho9 hg9 hv9
            repeat refine zz ?_
            have e1 : (P.take (i + 1)).drop h = (P.take i).drop h := by rw [List.drop_of_length_le (by rw [List.length_take]; omega), List.drop_of_length_le (by rw [List.length_take]; omega)]
            exact ⟨(i + 1, v9, vb), ⟨rfl, rfl, rfl, rfl, rfl, rfl, rfl, rfl, rfl, trivial⟩, ⟨hkb.grown hg9 (fun c hc => (ra c hc).1), by dsimp only; omega, hsb.grownN hg9 (fun c hc hm => by have := (ra c hc).1; have := hdO c hm; omega), ⟨fl ++ f1, by
              dsimp only
              rw [show min (i + 1) h = i + 1 by omega, htk, hP i hin]
              rw [show min i h = i by omega] at ho9
              exact ho9, fun c hm => by
              rcases List.mem_append.1 hm with h | h
              · exact hla c h
              · exact hdM c (hsub1 c h)⟩, ⟨fh, by
              dsimp only
              rw [e1]
              exact hob.grown hg9 (fun c hc => ⟨hap c hc, fun hm => by have := (ra c hc).1; have := hlb c hm; omega⟩), hlb⟩, fun c h1 h2 => by
              rcases hv9 with h | h
              · rw [h] at h1; exact hap c h1 h2
              · rw [h] at h1; simp only [Option.some.injEq] at h1; have := rb c h2; omega⟩, by dsimp only; omega⟩
          · simp at hc5
            have hih : h ≤ i := by omega
            repeat refine zz ?_
            refine o_buildSlice rfl rfl rfl rfl rfl (by simp [Value.cells]) (by omega) ?_
            intro b8 w8 hal8
            have hb8 : Blk w8 b8 90 [.int .i64 (gi M (gi O (i : Int))).id, u1] := by simpa [Value.cells] using hal8.blk
            have z8 := hal8.size
            replace hkb := hkb.keep hal8.kp
            replace hsb := hsb.keep hal8.kp
            replace hoa := hoa.keep hal8.kp
            replace hob := hob.keep hal8.kp
            replace hu1 := hu1.keep hal8.kp
            repeat refine zz ?_
            refine o_append (R := itemR) (gi := f1) rfl rfl rfl rfl rfl (by decide) hob (Blk.src (xs := [gi M (gi O (i : Int))]) hb8 (Rows.single (R := itemR) ⟨_, rfl, hu1⟩)) rfl (fun c hc => ⟨fun hm => by have := hlb c hm; have := (rb c hc).1; omega, fun hm => by have := hdM c (hsub1 c hm); have := (rb c hc).1; omega⟩) (by simp only [List.length_cons, List.length_nil]; omega) (by simp only [List.length_cons, List.length_nil]; omega) (by omega) ?_
            intro v9 w9 ho9 hg9 hv9
            repeat refine zz ?_
            have e1 : (P.take (i + 1)).drop h = (P.take i).drop h ++ [gi M (gi O (i : Int))] := by rw [htk, List.drop_append_of_le_length (by rw [List.length_take]; omega), hP i hin]
            exact ⟨(i + 1, va, v9), ⟨rfl, rfl, rfl, rfl, rfl, rfl, rfl, rfl, rfl, trivial⟩, ⟨hkb.grown hg9 (fun c hc => (rb c hc).1), by dsimp only; omega, hsb.grownN hg9 (fun c hc hm => by have := (rb c hc).1; have := hdO c hm; omega), ⟨fl, by
              dsimp only
              rw [show min (i + 1) h = min i h by omega]
              exact hoa.grown hg9 (fun c hc => ⟨fun e => hap c e hc, fun hm => by have := (rb c hc).1; have := hla c hm; omega⟩), hla⟩, ⟨fh ++ f1, by
              dsimp only
              rw [e1]
              exact ho9, fun c hm => by
              rcases List.mem_append.1 hm with h | h
              · exact hlb c h
              · exact hdM c (hsub1 c h)⟩, fun c h1 h2 => by
              rcases hv9 with h | h
              · rw [h] at h2; exact hap c h1 h2
              · rw [h] at h2; simp only [Option.some.injEq] at h2; have := ra c h1; omega⟩, by dsimp only; omega⟩
        · simp at hc4
          have hin : i = no := by omega
          subst hin
          rw [show min i h = h by omega] at hoa
          rw [show P.take i = P from List.take_of_length_le (by omega)] at hob
          obtain ⟨f3, hs3, _⟩ := hoa.sl (by decide)
          obtain ⟨f4, hs4, _⟩ := hob.sl (by decide)
          have hkw := hka.keep hkb
          have l3 : (P.take h).length = h := by rw [List.length_take]; omega
          have l4 : (P.drop h).length = i - h := by rw [List.length_drop]; omega
          have i3 : ∀ x, x ∈ P.take h → isItem x = true := fun x hx => hPs x (List.mem_of_mem_take hx)
          have i4 : ∀ x, x ∈ P.drop h → isItem x = true := fun x hx => hPs x (List.mem_of_mem_drop hx)
          clear hoa hob hMb hsb
          repeat refine zz ?_
          rw [show (d : Int) + 1 = ((d + 1 : Nat) : Int) by omega]
          refine o_call rfl rfl rfl (ih hs3 (hf.keep hkw) (hF.keep hkw) (by omega) (by omega) (by omega) (by omega) (by omega) i3 hiF) ?_
          rintro _ wc ⟨kc, x1, h1, rfl, hx1⟩
          have hbd := boxP_bd f N (P.take h) (d + 1) (F, n)
          have hit1 := boxP_item (f := f) N (P.take h) (d + 1) (F, n) i3 hiF
          generalize boxP f N (P.take h) (d + 1) (F, n) = S1 at *
          replace hkw := hkw.keep kc
          replace hs4 := hs4.keep kc
          have o1 := hx1.oneCell
          dsimp only at hbd
          repeat refine zz ?_
          rw [show (d : Int) + 1 = ((d + 1 : Nat) : Int) by omega]
          refine o_call rfl rfl rfl (ih hs4 (hf.keep hkw) hx1 (by omega) (by omega) (by omega) (by omega) (by omega) i4 hit1) ?_
          rintro _ wd ⟨kd, x2, h2', rfl, hx2⟩
          repeat refine zz ?_
          exact ret2 rfl rfl rfl ⟨hkw.keep kd, _, h2', rfl, hx2⟩
      · simp at hc3
        rw [box_leaf hM0 hct (by omega)]
        have hM2 : M.length ≤ 2 := by omega
        repeat refine zz ?_
        refine W_loop (S := Nat × Value) (fun s => [(0, .slice A nM cM), (1, .slice B nf cf_), (3, s.2), (4, .int .i64 ((n + s.1 : Nat) : Int)), (22, .int .i64 (s.1 : Int))]) (fun s w' => Keep w w' ∧ s.1 ≤ nM ∧ ∃ fF, Sl itemR w' s.2 (leafN f M (F, n) s.1).1 fF) (fun s => nM - s.1) (0, _) ⟨rfl, rfl, rfl, rfl, rfl, trivial⟩ ⟨hka, Nat.zero_le _, ff, hFa⟩ ?_
        clear hka hFa hfa
        rintro ⟨i, vG⟩ wb ⟨hkb, hi, fG, hG⟩
        dsimp only at hi hG ⊢
        have hMb := hM.keep hkb
        have hfb := hf.keep hkb
        repeat refine zz ?_
        refine W_cond rfl (fun hc4 => ?_) (fun hc4 => ?_)
        · simp at hc4
          have hin : i < nM := by omega
          have hbd := leafN_bd f M (F, n) i
          have hiG := leafN_item (f := f) (S := (F, n)) hiM hiF i (by omega)
          have hsucc : (leafN f M (F, n) (i + 1)).1 = addB f (leafN f M (F, n) i).1 (gi M (i : Int)) := rfl
          generalize (leafN f M (F, n) i).1 = G at *
          dsimp only at hbd
          have hix := hiM _ (gi_mem (xs := M) (i := i) (by omega))
          generalize hx : gi M (i : Int) = x at *
          have hdG := hG.dom
          have oG := hG.oneCell
          obtain ⟨Ag, ng, cg, rfl, hng⟩ := hG.split
          have zb := hkb.size_le
          repeat refine zz ?_
          refine o_buildSlice rfl rfl rfl rfl rfl (by intro p hp; cases hp) (by omega) ?_
          intro bO wO halO
          have hkO := halO.kp
          have zO := halO.b_eq
          have sO := halO.size
          have ho1 : OwnX itemR wO wb.heap.size 90 (.slice (some ⟨bO, 0, none⟩) 0 0) [] := OwnX.made halO.blk (by omega)
          have hkO' := hkO
          clear halO
          repeat refine zz ?_
          refine W_loop (S := Nat × Value) (fun s => [(0, .slice A nM cM), (1, .slice B nf cf_), (3, .slice Ag ng cg), (4, .int .i64 ((n + (i + 1) : Nat) : Int)), (22, .int .i64 (i : Int)), (23, s.2), (24, .bool (!cutN f G x.vals s.1)), (25, .int .i64 (s.1 : Int))]) (fun s w' => Keep wb w' ∧ s.1 ≤ ng ∧ OwnX itemR w' wb.heap.size 90 s.2 ((G.take s.1).filter fun y => !lwr f x.vals y.vals)) (fun s => ng - s.1) (0, _) ⟨rfl, rfl, rfl, find_int rfl (by omega), rfl, rfl, by unfold cutN; rfl, rfl, trivial⟩ ⟨hkO, Nat.zero_le _, by simpa using ho1⟩ ?_
          clear ho1 hkO hkO'
          rintro ⟨k, va⟩ wc ⟨hkc, hk, hoa⟩
          dsimp only at hk hoa ⊢
          have hMc := hMb.keep hkc
          have hfc := hfb.keep hkc
          have hGc := hG.keep hkc
          have zc := hkc.size_le
          have ra := fun c hc => hoa.lt (b := c) hc
          obtain ⟨hA1, u1, f1, hcell1, hu1, hsub1⟩ := item_get hMc (i := (i : Int)) (by omega) (by omega)
          rw [hx] at hcell1 hu1
          have hl1 := isItem_len hix
          repeat refine zz ?_
          refine W_cond rfl (fun hc5 => ?_) (fun hc5 => ?_)
          · simp at hc5
            have hkn : k < ng := by omega
            obtain ⟨hA2, u2, f2, hcell2, hu2, hsub2⟩ := item_get hGc (i := (k : Int)) (by omega) (by omega)
            have hiy := hiG _ (gi_mem (xs := G) (i := k) (by omega))
            have hl2 := isItem_len hiy
            have hs := cutN_succ f G x.vals k
            have hft := flt_step (p := fun y : Itm => !lwr f x.vals y.vals) (xs := G) (k := k) (by omega)
            have o2 := hu2.oneCell
            have d2 := hu2.dom
            have hll : ((G.take k).filter fun y => !lwr f x.vals y.vals).length ≤ 64 := by
              have h1 := List.length_filter_le (fun y : Itm => !lwr f x.vals y.vals) (G.take k)
              rw [List.length_take] at h1; omega
            repeat refine zz ?_
            refine W_cutR [(0, .slice A nM cM), (1, .slice B nf cf_), (3, .slice Ag ng cg), (4, .int .i64 ((n + (i + 1) : Nat) : Int)), (22, .int .i64 (i : Int)), (23, va), (24, .bool (!cutN f G x.vals (k + 1))), (25, .int .i64 (k : Int))] (fun w' => Keep wc w') ?_ ?_
            · intro we ke
              replace hkc := hkc.keep ke
              replace hoa := hoa.keep ke
              replace ra := fun c hc => hoa.lt (b := c) hc
              replace hMc := hMc.keep ke
              replace hGc := hGc.keep ke
              replace hfc := hfc.keep ke
              obtain ⟨hA1, u1, f1, hcell1, hu1, hsub1⟩ := item_get hMc (i := (i : Int)) (by omega) (by omega)
              rw [hx] at hcell1 hu1
              obtain ⟨hA2, u2, f2, hcell2, hu2, hsub2⟩ := item_get hGc (i := (k : Int)) (by omega) (by omega)
              have o2 := hu2.oneCell
              repeat refine zz ?_
              refine W_quiet (Keep we) (by kernel_rfl) (by kernel_rfl) (Keep.drew _) ?_
              repeat refine qq ?_
              refine WQ_call rfl rfl rfl (fun w' hw' => (l9Below_ok (hu1.keep hw') (hu2.keep hw') (hfc.keep hw') hl1 hl2 hff).kk hw') ?_
              repeat refine qq ?_
              intro wg kg 
              replace hkc := hkc.keep kg
              replace hoa := hoa.keep kg
              replace ra := fun c hc => hoa.lt (b := c) hc
              replace hGc := hGc.keep kg
              have zg := hkc.size_le
              obtain ⟨hA2, u2, f2, hcell2, hu2, hsub2⟩ := item_get hGc (i := (k : Int)) (by omega) (by omega)
              have o2 := hu2.oneCell
              have d2 := hu2.dom
              cases hlw : lwr f x.vals (gi G (k : Int)).vals with
              | false =>
                rw [hlw, if_pos (by rfl)] at hft
                repeat refine zz ?_
                refine o_buildSlice rfl rfl rfl rfl rfl (by simp [Value.cells]) (by omega) ?_
                intro b8 w8 hal8
                have hb8 : Blk w8 b8 90 [.int .i64 (gi G (k : Int)).id, u2] := by simpa [Value.cells] using hal8.blk
                have z8 := hal8.size
                replace hkc := hkc.keep hal8.kp
                replace hoa := hoa.keep hal8.kp
                replace hu2 := hu2.keep hal8.kp
                have d28 := hu2.dom
                repeat refine zz ?_
                refine o_appX (R := itemR) (gi := f2) rfl rfl rfl rfl rfl (by decide) hoa (Blk.src (xs := [gi G (k : Int)]) hb8 (Rows.single (R := itemR) ⟨_, rfl, hu2⟩)) rfl d28 (fun c hc hm => by have := hdG c (hsub2 c hm); have := (ra c hc).1; omega) (by simp only [List.length_cons, List.length_nil]; omega) (by simp only [List.length_cons, List.length_nil]; omega) (by omega) ?_
                intro v9 w9 ho9 hg9 _
                repeat refine zz ?_
                exact ⟨(k + 1, v9), ⟨rfl, rfl, rfl, rfl, rfl, rfl, rfl, rfl, trivial⟩, ⟨hkc.grown hg9 (fun c hc => (ra c hc).1), by dsimp only; omega, by dsimp only; rw [hft]; exact ho9⟩, by dsimp only; omega⟩
              | true =>
                rw [hlw, if_neg (by decide), List.append_nil] at hft
                repeat refine zz ?_
                exact ⟨(k + 1, va), ⟨rfl, rfl, rfl, rfl, rfl, rfl, rfl, rfl, trivial⟩, ⟨hkc, by dsimp only; omega, by dsimp only; rw [hft]; exact hoa⟩, by dsimp only; omega⟩
            · cases hcN : cutN f G x.vals k with
              | true =>
                rw [hcN, Bool.true_or] at hs
                refine W_quiet (Keep wc) (by kernel_rfl) (by kernel_rfl) (Keep.drew _) ?_
                repeat refine qq ?_
                intro we ke 
                repeat refine zz ?_
                exact ⟨⟨rfl, rfl, rfl, rfl, rfl, rfl, by rw [hs]; rfl, rfl, trivial⟩, ke⟩
              | false =>
                rw [hcN, Bool.false_or] at hs
                refine W_quiet (Keep wc) (by kernel_rfl) (by kernel_rfl) (Keep.drew _) ?_
                repeat refine qq ?_
                refine WQ_call rfl rfl rfl (fun w' hw' => (l9Below_ok (hu2.keep hw') (hu1.keep hw') (hfc.keep hw') hl2 hl1 hff).kk hw') ?_
                repeat refine qq ?_
                intro we ke 
                repeat refine zz ?_
                exact ⟨⟨rfl, rfl, rfl, rfl, rfl, rfl, by rw [hs]; rfl, rfl, trivial⟩, ke⟩
          · simp at hc5
            have hkn : k = G.length := by omega
            have hct' : cutN f G x.vals k = cut f G x.vals := by rw [hkn]; rfl
            rw [show G.take k = G from List.take_of_length_le (by omega)] at hoa
            have hkw := hkb.keep hkc
            have hll : (G.filter fun y => !lwr f x.vals y.vals).length ≤ 64 := by
              have h1 := List.length_filter_le (fun y : Itm => !lwr f x.vals y.vals) G
              omega
            rw [hct']
            have o1 := hu1.oneCell
            have d1 := hu1.dom
            cases hct2 : cut f G x.vals with
            | true =>
              have ha : addB f G x = G := by unfold addB; rw [if_pos hct2]
              repeat refine zz ?_
              exact ⟨(i + 1, _), ⟨rfl, rfl, rfl, rfl, rfl, trivial⟩, ⟨hkw, by dsimp only; omega, fG, by dsimp only; rw [hsucc, ha]; exact hGc⟩, by dsimp only; omega⟩
            | false =>
              have ha : addB f G x = G.filter (fun y => !lwr f x.vals y.vals) ++ [x] := by unfold addB; rw [if_neg (by rw [hct2]; decide)]
              repeat refine zz ?_
              refine o_buildSlice rfl rfl rfl rfl rfl (by simp [Value.cells]) (by omega) ?_
              intro b8 w8 hal8
              have hb8 : Blk w8 b8 90 [.int .i64 x.id, u1] := by simpa [Value.cells] using hal8.blk
              have z8 := hal8.size
              replace hkw := hkw.keep hal8.kp
              replace hoa := hoa.keep hal8.kp
              replace hu1 := hu1.keep hal8.kp
              have d18 := hu1.dom
              repeat refine zz ?_
              refine o_appX (R := itemR) (gi := f1) rfl rfl rfl rfl rfl (by decide) hoa (Blk.src (xs := [x]) hb8 (Rows.single (R := itemR) ⟨_, rfl, hu1⟩)) rfl d18 (fun c hc hm => by have := hdM c (hsub1 c hm); have := (ra c hc).1; omega) (by simp only [List.length_cons, List.length_nil]; omega) (by simp only [List.length_cons, List.length_nil]; omega) (by omega) ?_
              intro v9 w9 ho9 hg9 _
              obtain ⟨f9, hs9⟩ := ho9.sl (by decide)
              repeat refine zz ?_
              exact ⟨(i + 1, v9), ⟨rfl, rfl, rfl, rfl, rfl, trivial⟩, ⟨hkw.grown hg9 (fun c hc => by have := (ra c hc).1; omega), by dsimp only; omega, f9, by dsimp only; rw [hsucc, ha]; exact hs9⟩, by dsimp only; omega⟩
        · simp at hc4
          have hin : i = M.length := by omega
          have hbd := (leafN_bd f M (F, n) i).2
          rw [hin] at hG hbd
          repeat refine zz ?_
          exact ret2 rfl rfl rfl ⟨hkb, _, fG, by rw [hbd, hin], hG⟩
end Go.E

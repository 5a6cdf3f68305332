/-
  Contract: going through boxes of items, by the program. Conditions: as stated.
-/
import Derived.Test.YtnlleecmnjnphaaGreatGt
import Derived.Test.YtnlleecmnjnphaaGreatSf
import Derived.Test.YtnlleecmnjnphaaGreatRs
import Derived.Test.YtnlleecmnjnphaaGreatAg
set_option linter.unusedVariables false
set_option linter.unusedSimpArgs false
namespace Go.E
open Go Go.RowKit Go.Proofs
attribute [local irreducible] W WL WD WE thenE inE retQ PureOp Keep Cell Cells Blk Sl Rows Own Src Fresh
attribute [local irreducible] crn lwr byF ordL boxP cutN partM

set_option maxHeartbeats 8000000 in
theorem open_ok {f : List Int} (hff : isFieldList f = true) {base b6 b3 b4 b7 : Nat} {vf : Value} {gf : List Nat} : ∀ (N : Nat) {w : World} {v vF : Value} {M : List Itm} {fm g : List Nat} {zs : List (Itm × Value)} {d n bO : Nat} (hM : Sl itemR w v M fm) (hS : BoxSt w base b6 b3 b4 b7 vf f gf zs n vF bO g)
    (hfm : b6 ∉ fm ∧ b7 ∉ fm ∧ bO ∉ fm) (hMN : M.length ≤ N) (h16 : M.length ≤ 16) (hzl : zs.length + M.length ≤ 64) (hn : n + M.length ≤ 1000) (hd : d + N ≤ 100) (hbase : base ≤ w.heap.size) (hiM : ∀ x, x ∈ M → isItem x = true),
    Run Tryz.prog 29 [v, .int .i64 (d : Int), .pointer (some ⟨b6, 0, none⟩), .pointer (some ⟨b3, 0, none⟩), .pointer (some ⟨b4, 0, none⟩), .pointer (some ⟨b7, 0, none⟩)] w (fun r w' => r = .tuple #[] ∧ ∃ zs' vF' bO' g', BoxSt w' base b6 b3 b4 b7 vf f gf zs' (boxP f N M d (zs.map Prod.fst, n)).2 vF' bO' g' ∧ zs'.map Prod.fst = (boxP f N M d (zs.map Prod.fst, n)).1 ∧ (bO' = bO ∨ w.heap.size ≤ bO') ∧ Wrs w w' [b6, b7, bO]) := by
  intro N
  induction N with
  | zero =>
    intro w v vF M fm g zs d n bO hM hS hfm hMN h16 hzl hn hd hbase hiM
    obtain ⟨A, nM, cM, rfl, hlM⟩ := hM.split
    have hb : boxP f 0 M d (zs.map Prod.fst, n) = (zs.map Prod.fst, n) := by unfold boxP; rfl
    rw [hb]
    have h0 : nM = 0 := by omega
    subst h0
    refine Run_intro Tryz.func29 (by unfold CallOk; kernel_rfl) rfl Tryz.ntmps29 (Nat.le_of_ble_eq_true rfl) ?_
    simp only [penv, Nat.reduceAdd, Nat.zero_add]
    repeat refine zz ?_
    exact ret0 rfl ⟨rfl, zs, vF, bO, g, hS, rfl, .inl rfl, Wrs.refl _⟩
  | succ N ih =>
    intro w v vF M fm g zs d n bO hM hS hfm hMN h16 hzl hn hd hbase hiM
    have hdM := hM.dom
    have hnf3 := fieldList_len hff
    have hnf0 : 0 < f.length := by simp only [isFieldList, Bool.and_eq_true, decide_eq_true_eq] at hff; exact hff.2
    have hlf := hS.hf.le
    obtain ⟨A, nM, cM, rfl, hlM⟩ := hM.split
    refine Run_intro Tryz.func29 (by unfold CallOk; kernel_rfl) rfl Tryz.ntmps29 (Nat.le_of_ble_eq_true rfl) ?_
    simp only [penv, Nat.reduceAdd, Nat.zero_add]
    repeat refine zz ?_
    refine W_cond rfl (fun hc0 => ?_) (fun hc0 => ?_)
    · simp at hc0
      rw [box_nil (by omega)]
      repeat refine zz ?_
      exact ret0 rfl ⟨rfl, zs, vF, bO, g, hS, rfl, .inl rfl, Wrs.refl _⟩
    simp at hc0
    have hM0 : M.length ≠ 0 := by omega
    obtain ⟨hA0, u0, f0, hcell0, hu0, _⟩ := item_get hM (i := 0) (by omega) (by omega)
    have hl0 : (gi M 0).vals.length = 3 := items_3 hiM 0 (by omega)
    repeat refine zz ?_
    refine o_call rfl rfl rfl (copyInts_ok2 hu0 (by omega)) ?_
    rintro vc w1 ⟨hk, hoc⟩
    obtain ⟨Ac, nc, cc, rfl, hnc, _⟩ := hoc.split
    rw [hl0] at hnc
    have rc := fun c hc => hoc.lt (b := c) hc
    have zk0 := hk.size_le
    repeat refine zz ?_
    refine o_alloc rfl rfl ?_
    intro bc w2 halc
    have ec := halc.b_eq
    have sc := halc.size
    have hbc0 := halc.blk
    replace hk := hk.keep halc.kp
    replace hoc := hoc.keep halc.kp
    repeat refine zz ?_
    refine o_store1 (b := bc) (off := 0) rfl rfl rfl rfl rfl hbc0 (by simp) ?_
    intro w3 huc
    have hbc : Blk w3 bc 25 [.slice Ac nc cc] := huc.blk
    have hbcw : w.heap.size ≤ bc := by omega
    replace hk := hk.upd huc hbcw
    have hncb : (Value.slice Ac nc cc).ownBlock ≠ some bc := fun e => by have := (rc _ e).2; omega
    replace hoc := hoc.upd huc hncb (by simp)
    clear huc hbc0 halc hu0 hcell0
    repeat refine zz ?_
    refine W_cut [(0, .slice A nM cM), (1, .int .i64 (d : Int)), (2, .pointer (some ⟨b6, 0, none⟩)), (3, .pointer (some ⟨b3, 0, none⟩)), (4, .pointer (some ⟨b4, 0, none⟩)), (5, .pointer (some ⟨b7, 0, none⟩)), (8, .pointer (some ⟨bc, 0, none⟩))] (fun w' => Keep w w' ∧ Blk w' bc 25 [.slice Ac nc cc] ∧ OwnF intR w' w.heap.size 3 (.slice Ac nc cc) (crn M M.length) []) ?_ ?_
    · rintro wa ⟨hka, hbc, hoc⟩
      clear hk rc
      have hSa := hS.keep hka
      obtain ⟨fc, hsc, _⟩ := hoc.sl (by decide)
      have hlc := crn_len (items_3 hiM) (by omega) M.length (Nat.le_refl _)
      obtain ⟨fF, hsF, _⟩ := hSa.own.sl (by decide)
      have c6 := hSa.c6.cell (i := 0) rfl
      have oF := hsF.oneCell
      have hzf : zs.length = (zs.map Prod.fst).length := by rw [List.length_map]
      repeat refine zz ?_
      refine WL_pure rfl rfl (o_makeFunc rfl rfl) ?_
      repeat refine zz ?_
      refine o_call rfl rfl rfl (slices_ContainsFuncV_ok (p := fun q => lwr f q.1.vals (crn M M.length)) hsF (fun w' x hk hx => by obtain ⟨fu, hu, _⟩ := hSa.beh x hx; exact box1_ok (hSa.c3.keep hk) (hSa.hf.keep hk) (hbc.keep hk) (hsc.keep hk) (hu.keep hk) (hSa.ok x hx) hlc hff)) ?_
      rintro _ wb ⟨rfl, kb⟩
      rw [anyB_cut]
      replace hka := hka.keep kb
      replace hSa := hSa.keep kb
      clear hsc hsF hbc hoc c6
      repeat refine zz ?_
      refine W_cond rfl (fun hct => ?_) (fun hct => ?_)
      · rw [box_cut hM0 hct]
        repeat refine zz ?_
        exact ret0 rfl ⟨rfl, zs, vF, bO, g, hSa, rfl, .inl rfl, hka.wrs⟩
      have hMa := hM.keep hka
      repeat refine zz ?_
      refine W_cond rfl (fun hc3 => ?_) (fun hc3 => ?_)
      · simp at hc3
        have h2M : 2 < M.length := by omega
        rw [box_more hct h2M]
        have hkl : d % f.length < f.length := Nat.mod_lt _ hnf0
        generalize hkk : d % f.length = kk at *
        have hfk := field_at hff hkl
        have hfa := hSa.hf
        obtain ⟨B, nf, cf_, hvf, hlf'⟩ := hfa.split
        subst hvf
        obtain ⟨hB, hcf⟩ := hfa.getI (i := (kk : Int)) (by omega) (by omega)
        generalize hkf : gi f (kk : Int) = kf at *
        have c3 := hSa.c3.cell (i := 0) (v := .slice B nf cf_) rfl
        have zb := hka.size_le
        repeat refine zz ?_
        refine W_draw (Keep wb) (by kernel_rfl) ?_
        have hSd : Keep wb (World.drew wb) := Keep.drew wb
        first|refine d_o 0 ?_|refine d_a 0 ?_|refine d_s 0 ?_|refine d_n 0 ?_|refine d_i 0 ?_|refine d_f 0 ?_|refine d_b 0 ?_|refine d_d 0 ?_|refine d_l1 0 ?_|refine d_l2 0 ?_|refine d_l3 0 ?_|refine d_l4 0 ?_|refine d_l5 0 ?_|refine d_l6 0 ?_|refine d_l7 0 ?_|refine d_l8 0 ?_|refine d_l9 0 ?_|refine d_g 0 ?_|refine d_q 0 ?_|refine d_e 0 ?_|refine d_j 0 ?_
        first|refine d_o 1 ?_|refine d_a 1 ?_|refine d_s 1 ?_|refine d_n 1 ?_|refine d_i 1 ?_|refine d_f 1 ?_|refine d_b 1 ?_|refine d_d 1 ?_|refine d_l1 1 ?_|refine d_l2 1 ?_|refine d_l3 1 ?_|refine d_l4 1 ?_|refine d_l5 1 ?_|refine d_l6 1 ?_|refine d_l7 1 ?_|refine d_l8 1 ?_|refine d_l9 1 ?_|refine d_g 1 ?_|refine d_q 1 ?_|refine d_e 1 ?_|refine d_j 1 ?_
        first|refine d_o 2 ?_|refine d_a 2 ?_|refine d_s 2 ?_|refine d_n 2 ?_|refine d_i 2 ?_|refine d_f 2 ?_|refine d_b 2 ?_|refine d_d 2 ?_|refine d_l1 2 ?_|refine d_l2 2 ?_|refine d_l3 2 ?_|refine d_l4 2 ?_|refine d_l5 2 ?_|refine d_l6 2 ?_|refine d_l7 2 ?_|refine d_l8 2 ?_|refine d_l9 2 ?_|refine d_g 2 ?_|refine d_q 2 ?_|refine d_e 2 ?_|refine d_j 2 ?_
        first|refine d_o 3 ?_|refine d_a 3 ?_|refine d_s 3 ?_|refine d_n 3 ?_|refine d_i 3 ?_|refine d_f 3 ?_|refine d_b 3 ?_|refine d_d 3 ?_|refine d_l1 3 ?_|refine d_l2 3 ?_|refine d_l3 3 ?_|refine d_l4 3 ?_|refine d_l5 3 ?_|refine d_l6 3 ?_|refine d_l7 3 ?_|refine d_l8 3 ?_|refine d_l9 3 ?_|refine d_g 3 ?_|refine d_q 3 ?_|refine d_e 3 ?_|refine d_j 3 ?_
        first|refine d_o 4 ?_|refine d_a 4 ?_|refine d_s 4 ?_|refine d_n 4 ?_|refine d_i 4 ?_|refine d_f 4 ?_|refine d_b 4 ?_|refine d_d 4 ?_|refine d_l1 4 ?_|refine d_l2 4 ?_|refine d_l3 4 ?_|refine d_l4 4 ?_|refine d_l5 4 ?_|refine d_l6 4 ?_|refine d_l7 4 ?_|refine d_l8 4 ?_|refine d_l9 4 ?_|refine d_g 4 ?_|refine d_q 4 ?_|refine d_e 4 ?_|refine d_j 4 ?_
        refine WD_take 5 rfl (by kernel_rfl) (by kernel_rfl) (by kernel_rfl) (by repeat (first | exact np_ret | refine np_then ?_ | refine np_in ?_)) rfl rfl (fun w' _ => o_rem rfl rfl (by omega)) hSd ?_
        rw [rem_nat, hlf', hkk, ← hlf']
        first|refine d_o 6 ?_|refine d_a 6 ?_|refine d_s 6 ?_|refine d_n 6 ?_|refine d_i 6 ?_|refine d_f 6 ?_|refine d_b 6 ?_|refine d_d 6 ?_|refine d_l1 6 ?_|refine d_l2 6 ?_|refine d_l3 6 ?_|refine d_l4 6 ?_|refine d_l5 6 ?_|refine d_l6 6 ?_|refine d_l7 6 ?_|refine d_l8 6 ?_|refine d_l9 6 ?_|refine d_g 6 ?_|refine d_q 6 ?_|refine d_e 6 ?_|refine d_j 6 ?_
        first|refine d_o 7 ?_|refine d_a 7 ?_|refine d_s 7 ?_|refine d_n 7 ?_|refine d_i 7 ?_|refine d_f 7 ?_|refine d_b 7 ?_|refine d_d 7 ?_|refine d_l1 7 ?_|refine d_l2 7 ?_|refine d_l3 7 ?_|refine d_l4 7 ?_|refine d_l5 7 ?_|refine d_l6 7 ?_|refine d_l7 7 ?_|refine d_l8 7 ?_|refine d_l9 7 ?_|refine d_g 7 ?_|refine d_q 7 ?_|refine d_e 7 ?_|refine d_j 7 ?_
        refine WD_one 8 (by kernel_rfl) rfl ?_
        refine o_call rfl rfl rfl (byField_ok (hMa.keep hSd) (items_hit hiM) h16 hfk) ?_
        rintro vo wo ⟨ko, fo, hso, hfo⟩
        have eo : sortP (fval kf) M = byF M kf := by unfold byF; rfl
        rw [eo] at hso
        have zd := hSd.size_le
        replace hSd := hSd.keep ko
        refine WL_end ⟨hSd, ?_⟩
        first|refine d_o 9 ?_|refine d_a 9 ?_|refine d_s 9 ?_|refine d_n 9 ?_|refine d_i 9 ?_|refine d_f 9 ?_|refine d_b 9 ?_|refine d_d 9 ?_|refine d_l1 9 ?_|refine d_l2 9 ?_|refine d_l3 9 ?_|refine d_l4 9 ?_|refine d_l5 9 ?_|refine d_l6 9 ?_|refine d_l7 9 ?_|refine d_l8 9 ?_|refine d_l9 9 ?_|refine d_g 9 ?_|refine d_q 9 ?_|refine d_e 9 ?_|refine d_j 9 ?_
        refine WD_done (by kernel_rfl) ?_
        replace hka := hka.keep hSd
        replace hSa := hSa.keep hSd
        have hPl : (byF M kf).length = nM := by rw [byF_len]; omega
        have hPs : ∀ x, x ∈ byF M kf → isItem x = true := fun x hx => hiM x (byF_sub.1 hx)
        have lo6 := hS.c6.lt
        have lo7 := hS.c7.lt
        have loO := hS.lo
        have hfo' : ∀ c, c ∈ fo → c ≠ b6 ∧ c ≠ b7 ∧ c ≠ bO := fun c hc => by
          rcases hfo c hc with h | h
          · omega
          · exact ⟨fun e => hfm.1 (e ▸ h), fun e => hfm.2.1 (e ▸ h), fun e => hfm.2.2 (e ▸ h)⟩
        have hdo := hso.dom
        generalize byF M kf = P at *
        obtain ⟨Ao, no, co, rfl, hno⟩ := hso.split
        have hcap := hso.caps
        have hnoM : no = nM := by omega
        subst hnoM
        have hh : no / 2 ≤ no := by omega
        rw [← hlM]
        generalize hhd : no / 2 = h at *
        obtain ⟨fa, hPa, hfa1⟩ := hso.hi (k := h) (by omega)
        obtain ⟨fb, hPb, hfb1⟩ := hso.lo (k := h) (by omega)
        have la : (P.take h).length = h := by rw [List.length_take]; omega
        have lb : (P.drop h).length = no - h := by rw [List.length_drop]; omega
        have ia : ∀ x, x ∈ P.take h → isItem x = true := fun x hx => hPs x (List.mem_of_mem_take hx)
        have ib : ∀ x, x ∈ P.drop h → isItem x = true := fun x hx => hPs x (List.mem_of_mem_drop hx)
        have c4 := hSa.c4.cell (i := 0) rfl
        repeat refine zz ?_
        refine WL_pure rfl rfl (o_quo rfl rfl (by decide)) ?_
        rw [half16 no (by omega), hhd]
        repeat refine zz ?_
        have hS1 : Keep wo (World.drew wo) := Keep.drew wo
        have zd1 := hS1.size_le
        have zwo := hka.size_le
        refine W_late (Keep wo) [6] (by kernel_rfl) (Keep.drew wo) ?_
        first|refine e_o 0 ?_|refine e_a 0 ?_|refine e_s 0 ?_|refine e_n 0 ?_|refine e_i 0 ?_|refine e_f 0 ?_|refine e_b 0 ?_|refine e_d 0 ?_|refine e_l1 0 ?_|refine e_l2 0 ?_|refine e_l3 0 ?_|refine e_l4 0 ?_|refine e_l5 0 ?_|refine e_l6 0 ?_|refine e_l7 0 ?_|refine e_l8 0 ?_|refine e_l9 0 ?_|refine e_g 0 ?_|refine e_q 0 ?_|refine e_e 0 ?_|refine e_j 0 ?_
        first|refine e_o 1 ?_|refine e_a 1 ?_|refine e_s 1 ?_|refine e_n 1 ?_|refine e_i 1 ?_|refine e_f 1 ?_|refine e_b 1 ?_|refine e_d 1 ?_|refine e_l1 1 ?_|refine e_l2 1 ?_|refine e_l3 1 ?_|refine e_l4 1 ?_|refine e_l5 1 ?_|refine e_l6 1 ?_|refine e_l7 1 ?_|refine e_l8 1 ?_|refine e_l9 1 ?_|refine e_g 1 ?_|refine e_q 1 ?_|refine e_e 1 ?_|refine e_j 1 ?_
        first|refine e_o 2 ?_|refine e_a 2 ?_|refine e_s 2 ?_|refine e_n 2 ?_|refine e_i 2 ?_|refine e_f 2 ?_|refine e_b 2 ?_|refine e_d 2 ?_|refine e_l1 2 ?_|refine e_l2 2 ?_|refine e_l3 2 ?_|refine e_l4 2 ?_|refine e_l5 2 ?_|refine e_l6 2 ?_|refine e_l7 2 ?_|refine e_l8 2 ?_|refine e_l9 2 ?_|refine e_g 2 ?_|refine e_q 2 ?_|refine e_e 2 ?_|refine e_j 2 ?_
        refine WE_takeP 3 rfl (by kernel_rfl) (by kernel_rfl) (by kernel_rfl) (by kernel_rfl) (by repeat (first | exact np_ret | refine np_then ?_ | refine np_in ?_)) rfl rfl (fun w' => o_slice_hi (h := h) rfl rfl (by omega)) ?_
        first|refine e_o 4 ?_|refine e_a 4 ?_|refine e_s 4 ?_|refine e_n 4 ?_|refine e_i 4 ?_|refine e_f 4 ?_|refine e_b 4 ?_|refine e_d 4 ?_|refine e_l1 4 ?_|refine e_l2 4 ?_|refine e_l3 4 ?_|refine e_l4 4 ?_|refine e_l5 4 ?_|refine e_l6 4 ?_|refine e_l7 4 ?_|refine e_l8 4 ?_|refine e_l9 4 ?_|refine e_g 4 ?_|refine e_q 4 ?_|refine e_e 4 ?_|refine e_j 4 ?_
        first|refine e_o 5 ?_|refine e_a 5 ?_|refine e_s 5 ?_|refine e_n 5 ?_|refine e_i 5 ?_|refine e_f 5 ?_|refine e_b 5 ?_|refine e_d 5 ?_|refine e_l1 5 ?_|refine e_l2 5 ?_|refine e_l3 5 ?_|refine e_l4 5 ?_|refine e_l5 5 ?_|refine e_l6 5 ?_|refine e_l7 5 ?_|refine e_l8 5 ?_|refine e_l9 5 ?_|refine e_g 5 ?_|refine e_q 5 ?_|refine e_e 5 ?_|refine e_j 5 ?_
        rw [show (d : Int) + 1 = ((d + 1 : Nat) : Int) by omega]
        refine WE_last 6 (by kernel_rfl) rfl (by kernel_rfl) ?_
        refine o_callv rfl rfl rfl rfl (ih (hPa.keep hS1) (hSa.keep hS1) ⟨fun hm => (hfo' _ (hfa1 _ hm)).1 rfl, fun hm => (hfo' _ (hfa1 _ hm)).2.1 rfl, fun hm => (hfo' _ (hfa1 _ hm)).2.2 rfl⟩ (by omega) (by omega) (by omega) (by omega) (by omega) (by omega) ia) ?_
        rintro _ wc ⟨rfl, zs1, vF1, bO1, g1, hSc, he1, hb1, hW1⟩
        have hbd := boxP_bd f N (P.take h) (d + 1) (zs.map Prod.fst, n)
        generalize boxP f N (P.take h) (d + 1) (zs.map Prod.fst, n) = S1 at *
        have hzl1 : zs1.length = S1.1.length := by rw [← he1, List.length_map]
        rw [List.length_map] at hbd
        dsimp only at hbd
        have hWc : Wrs w wc [b6, b7, bO] := (hka.keep hS1).wrs.trans hW1
        have hPc := (hPb.keep hS1).wrs hW1 (fun b h1 h2 => by
          obtain ⟨q1, q2, q3⟩ := hfo' _ (hfb1 _ h1)
          simp only [List.mem_cons, List.not_mem_nil, or_false] at h2
          rcases h2 with h | h | h
          · exact q1 h
          · exact q2 h
          · exact q3 h)
        refine WL_end ?_
        refine WE_done (by kernel_rfl) ?_
        have zc := hWc.size
        have zc1 := hW1.size
        have c4 := hSc.c4.cell (i := 0) rfl
        repeat refine zz ?_
        have hS2 : Keep wc (World.drew wc) := Keep.drew wc
        have zd2 := hS2.size_le
        refine W_late (Keep wc) [6] (by kernel_rfl) (Keep.drew wc) ?_
        first|refine e_o 0 ?_|refine e_a 0 ?_|refine e_s 0 ?_|refine e_n 0 ?_|refine e_i 0 ?_|refine e_f 0 ?_|refine e_b 0 ?_|refine e_d 0 ?_|refine e_l1 0 ?_|refine e_l2 0 ?_|refine e_l3 0 ?_|refine e_l4 0 ?_|refine e_l5 0 ?_|refine e_l6 0 ?_|refine e_l7 0 ?_|refine e_l8 0 ?_|refine e_l9 0 ?_|refine e_g 0 ?_|refine e_q 0 ?_|refine e_e 0 ?_|refine e_j 0 ?_
        first|refine e_o 1 ?_|refine e_a 1 ?_|refine e_s 1 ?_|refine e_n 1 ?_|refine e_i 1 ?_|refine e_f 1 ?_|refine e_b 1 ?_|refine e_d 1 ?_|refine e_l1 1 ?_|refine e_l2 1 ?_|refine e_l3 1 ?_|refine e_l4 1 ?_|refine e_l5 1 ?_|refine e_l6 1 ?_|refine e_l7 1 ?_|refine e_l8 1 ?_|refine e_l9 1 ?_|refine e_g 1 ?_|refine e_q 1 ?_|refine e_e 1 ?_|refine e_j 1 ?_
        first|refine e_o 2 ?_|refine e_a 2 ?_|refine e_s 2 ?_|refine e_n 2 ?_|refine e_i 2 ?_|refine e_f 2 ?_|refine e_b 2 ?_|refine e_d 2 ?_|refine e_l1 2 ?_|refine e_l2 2 ?_|refine e_l3 2 ?_|refine e_l4 2 ?_|refine e_l5 2 ?_|refine e_l6 2 ?_|refine e_l7 2 ?_|refine e_l8 2 ?_|refine e_l9 2 ?_|refine e_g 2 ?_|refine e_q 2 ?_|refine e_e 2 ?_|refine e_j 2 ?_
        refine WE_takeP 3 rfl (by kernel_rfl) (by kernel_rfl) (by kernel_rfl) (by kernel_rfl) (by repeat (first | exact np_ret | refine np_then ?_ | refine np_in ?_)) rfl rfl (fun w' => o_slice_lo (l := h) rfl rfl (by omega)) ?_
        first|refine e_o 4 ?_|refine e_a 4 ?_|refine e_s 4 ?_|refine e_n 4 ?_|refine e_i 4 ?_|refine e_f 4 ?_|refine e_b 4 ?_|refine e_d 4 ?_|refine e_l1 4 ?_|refine e_l2 4 ?_|refine e_l3 4 ?_|refine e_l4 4 ?_|refine e_l5 4 ?_|refine e_l6 4 ?_|refine e_l7 4 ?_|refine e_l8 4 ?_|refine e_l9 4 ?_|refine e_g 4 ?_|refine e_q 4 ?_|refine e_e 4 ?_|refine e_j 4 ?_
        first|refine e_o 5 ?_|refine e_a 5 ?_|refine e_s 5 ?_|refine e_n 5 ?_|refine e_i 5 ?_|refine e_f 5 ?_|refine e_b 5 ?_|refine e_d 5 ?_|refine e_l1 5 ?_|refine e_l2 5 ?_|refine e_l3 5 ?_|refine e_l4 5 ?_|refine e_l5 5 ?_|refine e_l6 5 ?_|refine e_l7 5 ?_|refine e_l8 5 ?_|refine e_l9 5 ?_|refine e_g 5 ?_|refine e_q 5 ?_|refine e_e 5 ?_|refine e_j 5 ?_
        rw [show (d : Int) + 1 = ((d + 1 : Nat) : Int) by omega]
        refine WE_last 6 (by kernel_rfl) rfl (by kernel_rfl) ?_
        refine o_callv rfl rfl rfl rfl (ih (hPc.keep hS2) (hSc.keep hS2) ⟨fun hm => (hfo' _ (hfb1 _ hm)).1 rfl, fun hm => (hfo' _ (hfb1 _ hm)).2.1 rfl, fun hm => by
          rcases hb1 with h | h
          · rw [h] at hm; exact (hfo' _ (hfb1 _ hm)).2.2 rfl
          · have := hdo _ (hfb1 _ hm); omega⟩ (by omega) (by omega) (by omega) (by omega) (by omega) (by omega) ib) ?_
        rintro _ we ⟨rfl, zs2, vF2, bO2, g2, hSe, he2, hb2, hW2⟩
        rw [he1] at hSe he2
        refine WL_end ?_
        refine WE_done (by kernel_rfl) ?_
        repeat refine zz ?_
        exact ret0 rfl ⟨rfl, zs2, vF2, bO2, g2, hSe, he2, by
          rcases hb2 with h | h
          · rcases hb1 with h' | h'
            · exact .inl (h.trans h')
            · right; omega
          · right; omega, (hWc.trans hS2.wrs).thru hW2 fun b hb => by
          simp only [List.mem_cons, List.not_mem_nil, or_false] at hb ⊢
          rcases hb with h | h | h
          · exact .inl (.inl h)
          · exact .inl (.inr (.inl h))
          · rcases hb1 with h' | h'
            · exact .inl (.inr (.inr (h.trans h')))
            · right; omega⟩
      · simp at hc3
        rw [box_leaf hM0 hct (by omega)]
        have hmem : ∀ c, c ∈ [b6, b7, bO] ↔ c = b6 ∨ c = b7 ∨ c = bO := fun c => by simp
        repeat refine zz ?_
        refine W_loop (S := Nat × List (Itm × Value) × Value × Nat × List Nat) (fun s => [(2, .pointer (some ⟨b6, 0, none⟩)), (3, .pointer (some ⟨b3, 0, none⟩)), (5, .pointer (some ⟨b7, 0, none⟩)), (82, .slice A nM cM), (83, .int .i64 (nM : Int)), (84, .int .i64 (s.1 : Int))])
          (fun s w' => s.1 ≤ nM ∧ BoxSt w' base b6 b3 b4 b7 vf f gf s.2.1 (n + s.1) s.2.2.1 s.2.2.2.1 s.2.2.2.2 ∧ s.2.1.map Prod.fst = (leafN f M (zs.map Prod.fst, n) s.1).1 ∧ (s.2.2.2.1 = bO ∨ w.heap.size ≤ s.2.2.2.1) ∧ Wrs w w' [b6, b7, bO]) (fun s => nM - s.1) (0, zs, vF, bO, g)
          ⟨rfl, rfl, rfl, rfl, rfl, rfl, trivial⟩ ⟨Nat.zero_le _, hSa, rfl, .inl rfl, hka.wrs⟩ ?_
        clear hSa hka hMa hS
        rintro ⟨i, ys, vG, bG, g'⟩ wc ⟨hi, hSc, hys, hbG, hW⟩
        dsimp only at hi hSc hys hbG ⊢
        have hMc := hM.wrs hW (fun b h1 h2 => by
          rcases (hmem b).1 h2 with h | h | h
          · exact hfm.1 (h ▸ h1)
          · exact hfm.2.1 (h ▸ h1)
          · exact hfm.2.2 (h ▸ h1))
        have zc := hW.size
        repeat refine zz ?_
        refine W_cond rfl (fun hc4 => ?_) (fun hc4 => ?_)
        · simp at hc4
          have hin : i < nM := by omega
          have hbd := leafN_bd f M (zs.map Prod.fst, n) i
          have hsucc : (leafN f M (zs.map Prod.fst, n) (i + 1)).1 = addB f (leafN f M (zs.map Prod.fst, n) i).1 (gi M (i : Int)) := rfl
          rw [← hys] at hsucc hbd
          rw [List.length_map, List.length_map] at hbd
          dsimp only at hbd
          have hix := hiM _ (gi_mem (xs := M) (i := i) (by omega))
          obtain ⟨hA1, u1, f1, hcell1, hu1, hsub1⟩ := item_get hMc (i := (i : Int)) (by omega) (by omega)
          generalize hx : gi M (i : Int) = x at *
          have o1 := hu1.oneCell
          have hf1 : ∀ c, c ∈ f1 → c < w.heap.size ∧ c ≠ b6 ∧ c ≠ b7 ∧ c ≠ bG := fun c hc => by
            have h1 := hdM c (hsub1 c hc)
            refine ⟨h1, fun e => hfm.1 (e ▸ hsub1 c hc), fun e => hfm.2.1 (e ▸ hsub1 c hc), fun e => ?_⟩
            rcases hbG with h | h
            · exact hfm.2.2 (h ▸ e ▸ hsub1 c hc)
            · omega
          repeat refine zz ?_
          refine o_alloc rfl rfl ?_
          intro bR wR halR
          have hbR0 := halR.blk
          repeat refine zz ?_
          refine o_storeS (b := bR) (off := 0) rfl rfl rfl rfl (by repeat (first | exact ones_nil | refine ones_cons (by first | rfl | assumption) ?_)) rfl hbR0 (by simp) ?_
          intro wS huS
          have hbR : Blk wS bR _ [.int .i64 x.id, u1] := huS.blk
          have hkS := halR.kp.upd huS (Nat.le_of_eq halR.b_eq.symm)
          have hRe := halR.b_eq
          clear hbR0 huS halR
          have zR := hkS.size_le
          have lR := hSc.lo
          have l6 := hSc.c6.lt
          have l7 := hSc.c7.lt
          have l3 := hSc.c3.lt
          replace hW := hW.trans hkS.wrs
          replace hSc := hSc.keep hkS
          replace hu1 := hu1.keep hkS
          have c7 := hSc.c7.cell (i := 0) rfl
          repeat refine zz ?_
          rw [show ((n + i : Nat) : Int) + 1 = ((n + (i + 1) : Nat) : Int) by omega]
          refine o_store1 (b := b7) (off := 0) rfl rfl rfl rfl rfl hSc.c7 (by simp) ?_
          intro w1 hu7
          have hSd : BoxSt w1 base b6 b3 b4 b7 vf f gf ys (n + (i + 1)) vG bG g' := hSc.count hu7
          replace hW := hW.trans (hu7.wrs.sub (fun b hb => by rw [List.mem_singleton] at hb; rw [hmem]; exact .inr (.inl hb)))
          replace hbR := hbR.upd hu7 (by omega)
          replace hu1 := hu1.upd hu7 (fun hm => (hf1 _ hm).2.2.1 rfl)
          have z1 := hu7.size
          clear hSc hu7 c7
          obtain ⟨fF, hsF, _⟩ := hSd.own.sl (by decide)
          have c6 := hSd.c6.cell (i := 0) rfl
          have oG := hsF.oneCell
          repeat refine zz ?_
          refine WL_pure rfl rfl (o_makeFunc rfl rfl) ?_
          repeat refine zz ?_
          refine o_call rfl rfl rfl (slices_ContainsFuncV_ok (p := fun q => lwr f q.1.vals x.vals) hsF (fun w' y hk hy => by obtain ⟨fu, hu, _⟩ := hSd.beh y hy; exact box2_ok (hSd.c3.keep hk) (hSd.hf.keep hk) (hbR.keep hk) (hu1.keep hk) (hu.keep hk) hix (hSd.ok y hy) hff)) ?_
          rintro _ w2 ⟨rfl, k2⟩
          rw [anyB_cut]
          have z2 := k2.size_le
          replace hW := hW.trans k2.wrs
          replace hSd := hSd.keep k2
          replace hbR := hbR.keep k2
          replace hu1 := hu1.keep k2
          clear hsF c6
          repeat refine zz ?_
          refine W_cond rfl (fun hct2 => ?_) (fun hct2 => ?_)
          · have ha : addB f (ys.map Prod.fst) x = ys.map Prod.fst := by unfold addB; rw [if_pos hct2]
            repeat refine zz ?_
            exact ⟨(i + 1, ys, vG, bG, g'), ⟨rfl, rfl, rfl, rfl, rfl, rfl, trivial⟩, ⟨by dsimp only; omega, hSd, by dsimp only; rw [hsucc, ha], hbG, hW⟩, by dsimp only; omega⟩
          have ha : addB f (ys.map Prod.fst) x = (ys.map Prod.fst).filter (fun y => !lwr f x.vals y.vals) ++ [x] := by unfold addB; rw [if_neg (by rw [hct2]; decide)]
          have c6 := hSd.c6.cell (i := 0) rfl
          have hRG : bR ≠ bG := by omega
          repeat refine zz ?_
          refine WL_pure rfl rfl (o_makeFunc rfl rfl) ?_
          repeat refine zz ?_
          refine o_call rfl rfl rfl (slices_DeleteFuncV_ok (p := fun q => lwr f x.vals q.1.vals) (I := fun w' => Blk w' b3 25 [vf] ∧ Sl intR w' vf f gf ∧ Blk w' bR 45 [.int .i64 x.id, u1] ∧ Sl intR w' u1 x.vals f1 ∧ BehV ys g' w') hSd.own hSd.blk (fun w1 w2 h k => ⟨h.1.keep k, h.2.1.keep k, h.2.2.1.keep k, h.2.2.2.1.keep k, h.2.2.2.2.keep k⟩) (fun w1 w2 cs h k => ⟨h.1.upd k (fun e => hSd.ne.2.2.1 e.symm), h.2.1.upd k hSd.nf.2.2, h.2.2.1.upd k hRG, h.2.2.2.1.upd k (fun hm => (hf1 _ hm).2.2.2 rfl), h.2.2.2.2.upd k hSd.out.2.2⟩) ⟨hSd.c3, hSd.hf, hbR, hu1, hSd.beh⟩ (fun w' y hI hy => by obtain ⟨fu, hu, _⟩ := hI.2.2.2.2 y hy; exact box3_ok hI.1 hI.2.1 hI.2.2.1 hI.2.2.2.1 hu hix (hSd.ok y hy) hff) (by omega)) ?_
          rintro vD w3 ⟨hoD, hbD, hW3, h3D, hfD, hbRD, hu1D, hbeD⟩
          have z3 := hW3.size
          have hd6 : b6 ∉ [bG] := by simp; exact fun e => hSd.ne.1 e.symm
          have hd7 : b7 ∉ [bG] := by simp; exact fun e => hSd.ne.2.1 e.symm
          have hd4 : b4 ∉ [bG] := by simp; exact fun e => hSd.ne.2.2.2 e.symm
          have h6D := hSd.c6.wrs hW3 hd6
          have h7D := hSd.c7.wrs hW3 hd7
          have h4D := hSd.c4.wrs hW3 hd4
          have hWG : ∀ b, b ∈ [bG] → b ∈ [b6, b7, bO] ∨ w.heap.size ≤ b := fun b hb => by
            rw [List.mem_singleton] at hb
            subst hb
            rcases hbG with h | h
            · left; rw [hmem]; exact .inr (.inr h)
            · exact .inr h
          replace hW := hW.thru hW3 hWG
          obtain ⟨AD, nD, cD, rfl, hnD, _⟩ := hoD.split
          repeat refine zz ?_
          refine o_store1 (b := b6) (off := 0) rfl rfl rfl rfl rfl h6D (by simp) ?_
          intro w4 hu6
          have h64 : Blk w4 b6 24 [.slice AD nD cD] := hu6.blk
          have z4 := hu6.size
          have ap := hSd.ap
          have ne := hSd.ne
          have nf := hSd.nf
          have out := hSd.out
          have gl := hSd.lt
          have okS := hSd.ok
          replace h7D := h7D.upd hu6 (fun e => ap.1 e.symm)
          replace h4D := h4D.upd hu6 (fun e => ap.2.2.1 e.symm)
          replace h3D := h3D.upd hu6 (fun e => ap.2.1 e.symm)
          replace hfD := hfD.upd hu6 nf.1
          replace hbRD := hbRD.upd hu6 (by omega)
          replace hu1D := hu1D.upd hu6 (fun hm => (hf1 _ hm).2.1 rfl)
          replace hbeD := hbeD.upd hu6 out.1
          replace hoD := hoD.upd hu6 (fun e => ne.1 (by rw [hbD] at e; simpa using e)) (by simp)
          replace hW := hW.trans (hu6.wrs.sub (fun b hb => by rw [List.mem_singleton] at hb; rw [hmem]; exact .inl hb))
          clear hSd h6D hu6
          have c6 := h64.cell (i := 0) (v := .slice AD nD cD) rfl
          have cR := hbRD.cells
          have hfl : (ys.filter fun q => !lwr f x.vals q.1.vals).length ≤ ys.length := List.length_filter_le _ _
          repeat refine zz ?_
          refine o_buildSlice rfl rfl rfl rfl rfl (by simp [Value.cells]) (by omega) ?_
          intro b8 w5 hal8
          have hb8 : Blk w5 b8 45 (ivF.cf (x, u1)) := by simpa [Value.cells, ivF] using hal8.blk
          have z5 := hal8.size
          replace h64 := h64.keep hal8.kp
          replace h7D := h7D.keep hal8.kp
          replace h4D := h4D.keep hal8.kp
          replace h3D := h3D.keep hal8.kp
          replace hfD := hfD.keep hal8.kp
          replace hu1D := hu1D.keep hal8.kp
          replace hbeD := hbeD.keep hal8.kp
          replace hoD := hoD.keep hal8.kp
          replace hW := hW.trans hal8.kp.wrs
          have l64 := h64.lt
          have l74 := h7D.lt
          have l34 := h3D.lt
          have l44 := h4D.lt
          have dgf := hfD.dom
          have rG := fun c hc => (hoD.lt (b := c) hc)
          have lG := (rG _ hbD).2
          repeat refine zz ?_
          refine o_appendG (sz := 2) (R := ivF.R) (M := _) (gi := []) rfl rfl rfl rfl rfl (by decide) hoD (Blk.src (xs := [(x, u1)]) hb8 (Flat.single (F := ivF) (show u1.oneCell' = true from o1))) rfl (Fresh.nil _ _) (fun b hb => by simp at hb) (fun b hb => (hoD.lt hb).2) (fun b hb => by simp at hb) (by simp only [List.length_cons, List.length_nil]; omega) (by simp only [List.length_cons, List.length_nil]; omega) (by omega) ?_
          intro vN w6 hoN hbN hgN hvN
          rw [hbD] at hgN
          have z6 := hgN.size
          obtain ⟨bN, hbN', hbNc⟩ : ∃ bN, vN.ownBlock = some bN ∧ (bN = bG ∨ bN = w5.heap.size) := by
            rcases hvN with h | h
            · exact ⟨bG, by rw [h, hbD], .inl rfl⟩
            · exact ⟨_, h, .inr rfl⟩
          replace h64 := h64.grown hgN (fun e => ne.1 (by simpa using e.symm))
          replace h7D := h7D.grown hgN (fun e => ne.2.1 (by simpa using e.symm))
          replace h3D := h3D.grown hgN (fun e => ne.2.2.1 (by simpa using e.symm))
          replace h4D := h4D.grown hgN (fun e => ne.2.2.2 (by simpa using e.symm))
          replace hfD := hfD.grownN hgN (fun c hc hm => nf.2.2 (by simp at hc; exact hc ▸ hm))
          replace hu1D := hu1D.grownN hgN (fun c hc hm => (hf1 _ hm).2.2.2 (by simp at hc; exact hc.symm))
          replace hbeD : BehV ys g' w6 := hbeD.same fun c hc => hgN.block c (by have := gl c hc; omega) (fun e => out.2.2 (by simp at e; exact e ▸ hc))
          replace hW := hW.thru (grown_wrs hgN) hWG
          obtain ⟨AN, nN, cN, rfl, _, _⟩ := hoN.split
          repeat refine zz ?_
          refine o_store1 (b := b6) (off := 0) rfl rfl rfl rfl rfl h64 (by simp) ?_
          intro w7 hu7
          have z7 := hu7.size
          have h67 : Blk w7 b6 24 [.slice AN nN cN] := hu7.blk
          replace hW := hW.trans (hu7.wrs.sub (fun b hb => by rw [List.mem_singleton] at hb; rw [hmem]; exact .inl hb))
          have nN6 : bN ≠ b6 := by
            rcases hbNc with h | h
            · exact h ▸ ne.1
            · omega
          have hbe7 := (hbeD.upd hu7 out.1)
          have hu17 := hu1D.upd hu7 (fun hm => (hf1 _ hm).2.1 rfl)
          repeat refine zz ?_
          refine ⟨(i + 1, (ys.filter fun q => !lwr f x.vals q.1.vals) ++ [(x, u1)], .slice AN nN cN, bN, g' ++ f1), ⟨rfl, rfl, rfl, rfl, rfl, rfl, trivial⟩, ⟨by dsimp only; omega, ⟨h67, h7D.upd hu7 (fun e => ap.1 e.symm), h3D.upd hu7 (fun e => ap.2.1 e.symm), h4D.upd hu7 (fun e => ap.2.2.1 e.symm), hfD.upd hu7 nf.1, hoN.upd hu7 (fun e => nN6 (by rw [hbN'] at e; simpa using e)) (by simp), hbN', ?_, ?_, ?_, ?_, ?_, ?_, ap⟩, ?_, ?_, hW⟩, by dsimp only; omega⟩
          · intro p hp
            rcases List.mem_append.1 hp with h | h
            · obtain ⟨fp, h1, h2⟩ := hbe7 p (List.mem_filter.1 h).1
              exact ⟨fp, h1, fun b hb => List.mem_append.2 (.inl (h2 b hb))⟩
            · rw [List.mem_singleton] at h
              subst h
              exact ⟨f1, hu17, fun b hb => List.mem_append.2 (.inr hb)⟩
          · refine ⟨fun hm => ?_, fun hm => ?_, fun hm => ?_⟩
            · rcases List.mem_append.1 hm with h | h
              · exact out.1 h
              · exact (hf1 _ h).2.1 rfl
            · rcases List.mem_append.1 hm with h | h
              · exact out.2.1 h
              · exact (hf1 _ h).2.2.1 rfl
            · rcases List.mem_append.1 hm with h | h
              · rcases hbNc with h' | h'
                · exact out.2.2 (h' ▸ h)
                · have := gl bN h; omega
              · rcases hbNc with h' | h'
                · exact (hf1 _ h).2.2.2 h'
                · have := (hf1 bN h).1; omega
          · intro c hc
            rcases List.mem_append.1 hc with h | h
            · have := gl c h; omega
            · have := (hf1 _ h).1; omega
          · intro p hp
            rcases List.mem_append.1 hp with h | h
            · exact okS p (List.mem_filter.1 h).1
            · rw [List.mem_singleton] at h
              subst h
              exact hix
          · dsimp only
            rcases hbNc with h | h
            · rw [h]; exact ne
            · exact ⟨by omega, by omega, by omega, by omega⟩
          · refine ⟨nf.1, nf.2.1, fun hm => ?_⟩
            rcases hbNc with h | h
            · exact nf.2.2 (h ▸ hm)
            · have := dgf bN hm; omega
          · dsimp only
            rw [hsucc, ha, List.map_append, filt_fst ys (fun y => lwr f x.vals y.vals)]
            rfl
          · dsimp only
            rcases hbNc with h | h
            · rw [h]; exact hbG
            · right; omega
        · simp at hc4
          have hin : i = M.length := by omega
          have hbd := (leafN_bd f M (zs.map Prod.fst, n) i).2
          dsimp only at hbd
          rw [hin] at hys hbd hSc
          repeat refine zz ?_
          exact ret0n rfl ⟨rfl, ys, vG, bG, g', by rw [hbd]; exact hSc, hys, hbG, hW⟩
    · refine W_loop (S := Nat) (fun i => [(0, .slice A nM cM), (1, .int .i64 (d : Int)), (2, .pointer (some ⟨b6, 0, none⟩)), (3, .pointer (some ⟨b3, 0, none⟩)), (4, .pointer (some ⟨b4, 0, none⟩)), (5, .pointer (some ⟨b7, 0, none⟩)), (8, .pointer (some ⟨bc, 0, none⟩)), (25, .slice A nM cM), (26, .int .i64 (nM : Int)), (27, .int .i64 (i : Int))]) (fun i w' => Keep w w' ∧ i ≤ nM ∧ Blk w' bc 25 [.slice Ac nc cc] ∧ OwnF intR w' w.heap.size 3 (.slice Ac nc cc) (crn M i) []) (fun i => nM - i) 0 ⟨rfl, rfl, rfl, rfl, rfl, rfl, rfl, rfl, rfl, rfl, trivial⟩ ⟨hk, Nat.zero_le _, hbc, by rw [show crn M 0 = (gi M 0).vals by unfold crn; rfl]; exact hoc⟩ ?_
      clear hk hbc hoc
      rintro i wa ⟨hka, hi, hbc, hoc⟩
      have hMa := hM.keep hka
      repeat refine zz ?_
      refine W_cond rfl (fun hc1 => ?_) (fun hc1 => ?_)
      · simp at hc1
        have hin : i < nM := by omega
        have hlc := crn_len (items_3 hiM) (by omega) i (by omega)
        have hlv := items_3 hiM i (by omega)
        obtain ⟨hA1, u1, f1, hcell1, hu1, hsub1⟩ := item_get hMa (i := (i : Int)) (by omega) (by omega)
        have o1 := hu1.oneCell
        obtain ⟨A1, n1, c1, rfl, hn1⟩ := hu1.split
        rw [hlv] at hn1
        subst hn1
        have hza := hka.size_le
        have zown := fun c hc => (hoc.lt (b := c) hc)
        repeat refine zz ?_
        refine o_alloc rfl rfl ?_
        intro bR wR halR
        have hbR0 := halR.blk
        repeat refine zz ?_
        refine o_storeS (b := bR) (off := 0) rfl rfl rfl rfl (by repeat (first | exact ones_nil | refine ones_cons (by first | rfl | assumption) ?_)) rfl hbR0 (by simp) ?_
        intro wS huS
        have hbR : Blk wS bR _ [.int .i64 (gi M (i : Int)).id, .slice A1 3 c1] := huS.blk
        have hkS := halR.kp.upd huS (Nat.le_of_eq halR.b_eq.symm)
        have hRe := halR.b_eq
        clear hbR0 huS halR
        replace hka := hka.keep hkS
        replace hbc := hbc.keep hkS
        replace hoc := hoc.keep hkS
        replace hu1 := hu1.keep hkS
        repeat refine zz ?_
        refine W_loop (S := Nat) (fun k => [(0, .slice A nM cM), (1, .int .i64 (d : Int)), (2, .pointer (some ⟨b6, 0, none⟩)), (3, .pointer (some ⟨b3, 0, none⟩)), (4, .pointer (some ⟨b4, 0, none⟩)), (5, .pointer (some ⟨b7, 0, none⟩)), (8, .pointer (some ⟨bc, 0, none⟩)), (25, .slice A nM cM), (26, .int .i64 (nM : Int)), (27, .int .i64 (i : Int)), (32, .slice A1 3 c1), (33, .int .i64 3), (34, .int .i64 (k : Int))]) (fun k w' => Keep w w' ∧ k ≤ 3 ∧ Blk w' bc 25 [.slice Ac nc cc] ∧ OwnF intR w' w.heap.size 3 (.slice Ac nc cc) (partM (crn M i) (gi M (i : Int)).vals k) [] ∧ Sl intR w' (.slice A1 3 c1) (gi M (i : Int)).vals f1) (fun k => 3 - k) 0 ⟨rfl, rfl, rfl, rfl, rfl, rfl, rfl, rfl, rfl, rfl, rfl, rfl, rfl, trivial⟩ ⟨hka, Nat.zero_le _, hbc, by rw [partM_0]; exact hoc, hu1⟩ ?_
        clear hka hbc hoc hu1 hMa hcell1
        rintro k wb ⟨hkb, hk, hbc, hob, hu1⟩
        have hpl := partM_len (c := crn M i) (v := (gi M (i : Int)).vals) (by omega) k
        repeat refine zz ?_
        refine W_cond rfl (fun hc2 => ?_) (fun hc2 => ?_)
        · simp at hc2
          have hk3 : k < 3 := by omega
          obtain ⟨hA11, hc11⟩ := hu1.getI (i := (k : Int)) (by omega) (by omega)
          obtain ⟨fo, hso, _⟩ := hob.sl (by decide)
          obtain ⟨hAc, hcc⟩ := hso.getI (i := (k : Int)) (by omega) (by omega)
          rw [partM_at (by omega) (by omega)] at hcc
          have c8 := hbc.cell (i := 0) (v := .slice Ac nc cc) rfl
          repeat refine zz ?_
          have hS' : Keep wb (World.drew wb) := Keep.drew wb
          refine W_late (Keep wb) [9] (by kernel_rfl) (Keep.drew wb) ?_
          first|refine e_o 0 ?_|refine e_a 0 ?_|refine e_s 0 ?_|refine e_n 0 ?_|refine e_i 0 ?_|refine e_f 0 ?_|refine e_b 0 ?_|refine e_d 0 ?_|refine e_l1 0 ?_|refine e_l2 0 ?_|refine e_l3 0 ?_|refine e_l4 0 ?_|refine e_l5 0 ?_|refine e_l6 0 ?_|refine e_l7 0 ?_|refine e_l8 0 ?_|refine e_l9 0 ?_|refine e_g 0 ?_|refine e_q 0 ?_|refine e_e 0 ?_|refine e_j 0 ?_
          first|refine e_o 1 ?_|refine e_a 1 ?_|refine e_s 1 ?_|refine e_n 1 ?_|refine e_i 1 ?_|refine e_f 1 ?_|refine e_b 1 ?_|refine e_d 1 ?_|refine e_l1 1 ?_|refine e_l2 1 ?_|refine e_l3 1 ?_|refine e_l4 1 ?_|refine e_l5 1 ?_|refine e_l6 1 ?_|refine e_l7 1 ?_|refine e_l8 1 ?_|refine e_l9 1 ?_|refine e_g 1 ?_|refine e_q 1 ?_|refine e_e 1 ?_|refine e_j 1 ?_
          first|refine e_o 2 ?_|refine e_a 2 ?_|refine e_s 2 ?_|refine e_n 2 ?_|refine e_i 2 ?_|refine e_f 2 ?_|refine e_b 2 ?_|refine e_d 2 ?_|refine e_l1 2 ?_|refine e_l2 2 ?_|refine e_l3 2 ?_|refine e_l4 2 ?_|refine e_l5 2 ?_|refine e_l6 2 ?_|refine e_l7 2 ?_|refine e_l8 2 ?_|refine e_l9 2 ?_|refine e_g 2 ?_|refine e_q 2 ?_|refine e_e 2 ?_|refine e_j 2 ?_
          first|refine e_o 3 ?_|refine e_a 3 ?_|refine e_s 3 ?_|refine e_n 3 ?_|refine e_i 3 ?_|refine e_f 3 ?_|refine e_b 3 ?_|refine e_d 3 ?_|refine e_l1 3 ?_|refine e_l2 3 ?_|refine e_l3 3 ?_|refine e_l4 3 ?_|refine e_l5 3 ?_|refine e_l6 3 ?_|refine e_l7 3 ?_|refine e_l8 3 ?_|refine e_l9 3 ?_|refine e_g 3 ?_|refine e_q 3 ?_|refine e_e 3 ?_|refine e_j 3 ?_
          first|refine e_o 4 ?_|refine e_a 4 ?_|refine e_s 4 ?_|refine e_n 4 ?_|refine e_i 4 ?_|refine e_f 4 ?_|refine e_b 4 ?_|refine e_d 4 ?_|refine e_l1 4 ?_|refine e_l2 4 ?_|refine e_l3 4 ?_|refine e_l4 4 ?_|refine e_l5 4 ?_|refine e_l6 4 ?_|refine e_l7 4 ?_|refine e_l8 4 ?_|refine e_l9 4 ?_|refine e_g 4 ?_|refine e_q 4 ?_|refine e_e 4 ?_|refine e_j 4 ?_
          first|refine e_o 5 ?_|refine e_a 5 ?_|refine e_s 5 ?_|refine e_n 5 ?_|refine e_i 5 ?_|refine e_f 5 ?_|refine e_b 5 ?_|refine e_d 5 ?_|refine e_l1 5 ?_|refine e_l2 5 ?_|refine e_l3 5 ?_|refine e_l4 5 ?_|refine e_l5 5 ?_|refine e_l6 5 ?_|refine e_l7 5 ?_|refine e_l8 5 ?_|refine e_l9 5 ?_|refine e_g 5 ?_|refine e_q 5 ?_|refine e_e 5 ?_|refine e_j 5 ?_
          first|refine e_o 6 ?_|refine e_a 6 ?_|refine e_s 6 ?_|refine e_n 6 ?_|refine e_i 6 ?_|refine e_f 6 ?_|refine e_b 6 ?_|refine e_d 6 ?_|refine e_l1 6 ?_|refine e_l2 6 ?_|refine e_l3 6 ?_|refine e_l4 6 ?_|refine e_l5 6 ?_|refine e_l6 6 ?_|refine e_l7 6 ?_|refine e_l8 6 ?_|refine e_l9 6 ?_|refine e_g 6 ?_|refine e_q 6 ?_|refine e_e 6 ?_|refine e_j 6 ?_
          refine WE_takeP 7 rfl (by kernel_rfl) (by kernel_rfl) (by kernel_rfl) (by kernel_rfl) (by repeat (first | exact np_ret | refine np_then ?_ | refine np_in ?_)) rfl rfl (fun w' => o_min rfl rfl) ?_
          first|refine e_o 8 ?_|refine e_a 8 ?_|refine e_s 8 ?_|refine e_n 8 ?_|refine e_i 8 ?_|refine e_f 8 ?_|refine e_b 8 ?_|refine e_d 8 ?_|refine e_l1 8 ?_|refine e_l2 8 ?_|refine e_l3 8 ?_|refine e_l4 8 ?_|refine e_l5 8 ?_|refine e_l6 8 ?_|refine e_l7 8 ?_|refine e_l8 8 ?_|refine e_l9 8 ?_|refine e_g 8 ?_|refine e_q 8 ?_|refine e_e 8 ?_|refine e_j 8 ?_
          refine WE_last 9 (by kernel_rfl) rfl (by kernel_rfl) ?_
          replace hkb := hkb.keep hS'
          replace hbc := hbc.keep hS'
          replace hob := hob.keep hS'
          replace hu1 := hu1.keep hS'
          have hdu := hu1.dom
          obtain ⟨bo, cap, cells, hv, hbo, hblk, hl1, hl2, hget, hput⟩ := hob.stI (by intro e; rw [e] at hpl; simp at hpl; omega)
          simp only [Value.slice.injEq] at hv
          obtain ⟨rfl, _, rfl⟩ := hv
          refine o_store1 (b := bo) (off := k) rfl rfl (by rw [ea_blk, Nat.zero_add, Nat.mul_one]) rfl rfl hblk (by omega) ?_
          intro we hue
          have hoe := hput we k _ (by omega) hue
          rw [partM_set (by omega) (by omega)] at hoe
          refine WL_end ?_
          refine WE_done (by kernel_rfl) ?_
          repeat refine zz ?_
          exact ⟨k + 1, ⟨rfl, rfl, rfl, rfl, rfl, rfl, rfl, rfl, rfl, rfl, rfl, rfl, rfl, trivial⟩, ⟨hkb.upd hue hbo, by omega, hbc.upd hue (fun e => hncb (by simp [Value.ownBlock, e])), hoe, hu1.upd hue (fun hm => by have := hdM _ (hsub1 _ hm); omega)⟩, by omega⟩
        · simp at hc2
          have hk3 : k = 3 := by omega
          rw [hk3, partM_end (by omega) (by omega)] at hob
          repeat refine zz ?_
          exact ⟨i + 1, ⟨rfl, rfl, rfl, rfl, rfl, rfl, rfl, rfl, rfl, rfl, trivial⟩, ⟨hkb, by omega, hbc, by rw [crn_succ]; exact hob⟩, by omega⟩
      · simp at hc1
        have hin : i = M.length := by omega
        rw [hin] at hoc
        repeat refine zz ?_
        exact ⟨⟨rfl, rfl, rfl, rfl, rfl, rfl, rfl, trivial⟩, hka, hbc, hoc⟩
end Go.E

/-
  Contracts: merging two lists of ids, by the program. Conditions: as stated.
-/
import Derived.Test.YtdenoambgonomaaGreatM2
import Derived.Test.YtdenoambgonomaaGreatM3
import Derived.Test.YtdenoambgonomaaGreatM4
import Derived.Test.YtdenoambgonomaaGreatAg
set_option linter.unusedVariables false
set_option linter.unusedSimpArgs false
namespace Go.E
open Go Go.RowKit Go.Proofs
theorem surv_any (L : List Itm) (e : List Nod) (o : List Int) (x : Itm) : (!anyB o.length fun i => decide (cmpE e (itId L (gi o (i : Int))) x = 1)) = survN L e o x o.length := by
  unfold anyB survN
  rw [Bool.not_not]
  exact allB_congr fun i _ => by simp
/-- the lists kept after j sides -/
def sideN (L : List Itm) (e : List Nod) (a b : List Int) : Nat → List Int
  | 0 => []
  | 1 => keepP L e b a
  | _ => keepP L e b a ++ keepP L e a b
theorem Blk.two {w : World} {b : Nat} {t : TypeId} {cs : List Value} (h : Blk w b t cs) (j : Nat) {x y : Value} (h0 : cs[j * 2]? = some x) (h1 : cs[j * 2 + 1]? = some y) : Cells w (ea (some ⟨b, 0, none⟩) 2 (j : Int)) [x, y] := by
  refine ⟨⟨b, 0 + j * 2, none⟩, by simp [ea, add_mk], fun i u hu => ?_⟩
  rw [add_mk, h.cell?, Nat.zero_add]
  rcases i with _ | _ | i
  · simp at hu; subst hu; exact h0
  · simp at hu; subst hu; exact h1
  · simp at hu
theorem known_mem {L : List Itm} {a : List Int} (h : areKnown L a = true) {x : Int} (hx : x ∈ a) : 0 ≤ findI L x ∧ findI L x < L.length := by
  obtain ⟨i, hi, rfl⟩ := List.getElem_of_mem hx
  have := known_at h hi
  rwa [gi_lt hi] at this
theorem side_step (L : List Itm) (e : List Nod) (a b : List Int) {j : Nat} (hj : j < 2) : sideN L e a b (j + 1) = sideN L e a b j ++ keepP L e (if j = 0 then b else a) (if j = 0 then a else b) := by
  rcases (show j = 0 ∨ j = 1 by omega) with rfl | rfl <;> simp [sideN]
theorem side_two (L : List Itm) (e : List Nod) (a b : List Int) : sideN L e a b 2 = mrgU L e a b := rfl
theorem side_len (L : List Itm) (e : List Nod) (a b : List Int) (j : Nat) : (sideN L e a b j).length ≤ a.length + b.length := by
  have h1 := keepP_len L e b a
  have h2 := keepP_len L e a b
  unfold sideN
  split
  · simp
  · omega
  · rw [List.length_append]; omega
attribute [local irreducible] W WL WD WE thenE inE retQ PureOp Keep Cell Cells Blk Sl Rows Own Src Fresh
attribute [local irreducible] keepP sideN

set_option maxHeartbeats 1000000 in
theorem merged1_ok {w : World} {A : Option Addr} {n c : Nat} {u ux : Value} {L : List Itm} {e : List Nod} {fp gp fx : List Nat} {x : Itm} {id : Int} {b5 b4 bx : Nat} (hL : Sl itemR w (.slice A n c) L fp) (he : Sl nodeR w u e gp) (hux : Sl intR w ux x.vals fx)
    (h5 : Blk w b5 30 [u]) (h4 : Blk w b4 24 [.slice A n c]) (hx : Blk w bx 67 [.int .i64 x.id, ux]) (hex : isExpr e = true) (hitI : ∀ i : Int, 0 ≤ i → i < n → isItem (gi L i) = true) (ix : isItem x = true) (h0 : 0 ≤ findI L id) (h1 : findI L id < n) :
    Run Tryz.prog 124 [.int .i64 id, .pointer (some ⟨b5, 0, none⟩), .pointer (some ⟨b4, 0, none⟩), .pointer (some ⟨bx, 0, none⟩)] w (fun r w' => r = .bool (decide (cmpE e (itId L id) x = 1)) ∧ Keep w w') := by
  have c5 := h5.cell (i := 0) (v := u) rfl
  have c4 := h4.cell (i := 0) (v := .slice A n c) rfl
  have cx := hx.cells
  obtain ⟨hA, u1, f1, hcell1, hu1, _⟩ := item_get hL (i := findI L id) (by omega) (by omega)
  refine Run_intro Tryz.func124 (by unfold CallOk; kernel_rfl) rfl Tryz.ntmps124 (Nat.le_of_ble_eq_true rfl) ?_
  simp only [penv, Nat.reduceAdd, Nat.zero_add]
  repeat refine zz ?_
  refine W_quiet (Keep w) (by kernel_rfl) (by kernel_rfl) (Keep.drew _) ?_
  repeat refine qq ?_
  refine WQ_call rfl rfl rfl (fun w' hw' => (impl_FindItem_ok (hL.keep hw')).kk hw') ?_
  repeat refine qq ?_
  refine WQ_call rfl rfl rfl (fun w' hw' => (compareBy_ok (x := itId L id) (y := x) (he.keep hw') (hu1.keep hw') (hux.keep hw') hex (hitI _ h0 h1) ix).kk hw') ?_
  repeat refine qq ?_
  intro wd hkd 
  repeat refine zz ?_
  exact ret1 rfl rfl ⟨rfl, hkd⟩


set_option maxHeartbeats 4000000 in
theorem merged_ok {w : World} {v u va vb : Value} {L : List Itm} {e : List Nod} {a b : List Int} {fp gp fa fb : List Nat} (hL : Sl itemR w v L fp) (he : Sl nodeR w u e gp) (ha : Sl intR w va a fa) (hb : Sl intR w vb b fb)
    (hex : isExpr e = true) (hit : ∀ i : Nat, i < L.length → isItem (gi L (i : Int)) = true) (hna : a.length ≤ 1048576) (hnb : b.length ≤ 1048576) (hka : areKnown L a = true) (hkb : areKnown L b = true) :
    Run Tryz.prog 83 [v, u, va, vb] w (fun r w' => Keep w w' ∧ ∃ fp, Sl intR w' r (mrg L e a b) fp ∧ Fresh w.heap.size w' fp) := by
  have ova := ha.oneCell
  have ovb := hb.oneCell
  obtain ⟨A, n, c, rfl, hnx⟩ := hL.split
  have hitI : ∀ i : Int, 0 ≤ i → i < n → isItem (gi L i) = true := fun i h0 h1 => by
    have := hit i.toNat (by omega)
    rwa [show ((i.toNat : Nat) : Int) = i by omega] at this
  refine Run_intro Tryz.func83 (by unfold CallOk; kernel_rfl) rfl Tryz.ntmps83 (Nat.le_of_ble_eq_true rfl) ?_
  simp only [penv, Nat.reduceAdd, Nat.zero_add]
  repeat refine zz ?_
  refine o_box rfl rfl rfl ?_
  intro b4 w1 hal1
  have h4 : Blk w1 b4 24 [.slice A n c] := hal1.blk
  have hk1 := hal1.kp
  replace hL := hL.keep hk1
  replace he := he.keep hk1
  replace ha := ha.keep hk1
  replace hb := hb.keep hk1
  obtain ⟨Au, nu, cu, rfl, hnu⟩ := he.split
  repeat refine zz ?_
  refine o_box rfl rfl rfl ?_
  intro b5 w2 hal2
  have h5 : Blk w2 b5 30 [.slice Au nu cu] := hal2.blk
  replace hL := hL.keep hal2.kp
  replace he := he.keep hal2.kp
  replace ha := ha.keep hal2.kp
  replace hb := hb.keep hal2.kp
  replace h4 := h4.keep hal2.kp
  replace hk1 := hk1.keep hal2.kp
  obtain ⟨Aa, na, ca, rfl, hna'⟩ := ha.split
  obtain ⟨Ab, nb, cb, rfl, hnb'⟩ := hb.split
  repeat refine zz ?_
  refine o_buildSlice rfl rfl rfl rfl rfl (by intro p hp; cases hp) (by omega) ?_
  intro bO wO halO
  have hkO := halO.kp
  have ho0 : OwnF intR wO w2.heap.size 3 (.slice (some ⟨bO, 0, none⟩) 0 0) [] [] := OwnF.made halO.blk (by have := halO.b_eq; omega)
  repeat refine zz ?_
  refine WL_pure rfl rfl (o_buildA (cs := [.slice Aa na ca, .slice Ab nb cb]) rfl rfl) ?_
  repeat refine zz ?_
  refine WL_pure rfl rfl (o_buildA (cs := [.slice Ab nb cb, .slice Aa na ca]) rfl rfl) ?_
  repeat refine zz ?_
  refine o_buildSlice rfl rfl rfl rfl rfl (by simp [Value.cells]) (by omega) ?_
  intro bS w3 hal3
  have hbS : Blk w3 bS 138 [.slice Aa na ca, .slice Ab nb cb, .slice Ab nb cb, .slice Aa na ca] := by simpa [Value.cells] using hal3.blk
  have hk3 := hkO.keep hal3.kp
  have heS := hal3.b_eq
  replace ho0 := ho0.keep hal3.kp
  have hneS : (Value.slice (some ⟨bO, 0, none⟩) 0 0).ownBlock ≠ some bS := fun e => by
    have := halO.b_eq; have := halO.size
    simp only [Value.ownBlock, Option.some.injEq] at e; omega
  repeat refine zz ?_
  refine W_loop (S := Nat × Value) (fun s => [(4, .pointer (some ⟨b4, 0, none⟩)), (5, .pointer (some ⟨b5, 0, none⟩)), (9, s.2), (22, .slice (some ⟨bS, 0, none⟩) 2 2), (23, .int .i64 2), (24, .int .i64 (s.1 : Int))]) (fun s w' => Keep w2 w' ∧ s.1 ≤ 2 ∧ Blk w' bS 138 [.slice Aa na ca, .slice Ab nb cb, .slice Ab nb cb, .slice Aa na ca] ∧ OwnF intR w' w2.heap.size 3 s.2 (sideN L e a b s.1) [] ∧ s.2.ownBlock ≠ some bS ∧ s.2.ownBlock.isSome = true) (fun s => 2 - s.1) (0, _) ⟨rfl, rfl, rfl, rfl, rfl, rfl, trivial⟩ ⟨hk3, by omega, hbS, by rw [sideN]; exact ho0, hneS, rfl⟩ ?_
  clear hk3 hbS ho0 hneS hal3 heS hkO halO
  rintro ⟨j, vo0⟩ wa ⟨hka1, hj, hbS, hoa, hneS, hos0⟩
  dsimp only at hj hoa hneS hos0 ⊢
  have hsl := side_len L e a b j
  repeat refine zz ?_
  refine W_cond rfl (fun hc => ?_) (fun hc => ?_)
  · have hj2 : j < 2 := by simp at hc; omega
    have hss := side_step L e a b hj2
    obtain ⟨P, Q, AP, nP, cP, AQ, nQ, cQ, fP, fQ, hP, hQ, hPn, hQn, hkP, hkQ, hPl, hQl, hcell, hss⟩ : ∃ (P Q : List Int) (AP : Option Addr) (nP cP : Nat) (AQ : Option Addr) (nQ cQ : Nat) (fP fQ : List Nat), Sl intR w2 (.slice AP nP cP) P fP ∧ Sl intR w2 (.slice AQ nQ cQ) Q fQ ∧ nP = P.length ∧ nQ = Q.length ∧ areKnown L P = true ∧ areKnown L Q = true ∧ P.length ≤ 1048576 ∧ Q.length ≤ 1048576 ∧
        Cells wa (ea (some ⟨bS, 0, none⟩) 2 (j : Int)) [.slice AP nP cP, .slice AQ nQ cQ] ∧ sideN L e a b (j + 1) = sideN L e a b j ++ keepP L e Q P := by
      rcases (show j = 0 ∨ j = 1 by omega) with rfl | rfl
      · refine ⟨a, b, Aa, na, ca, Ab, nb, cb, fa, fb, ha, hb, hna', hnb', hka, hkb, hna, hnb, hbS.two 0 rfl rfl, hss⟩
      · refine ⟨b, a, Ab, nb, cb, Aa, na, ca, fb, fa, hb, ha, hnb', hna', hkb, hka, hnb, hna, hbS.two 1 rfl rfl, hss⟩
    repeat refine zz ?_
    refine o_alloc rfl rfl ?_
    intro b11 wc hal11
    have hza := hka1.size_le
    have hbSl := hbS.lt
    have hoa0 := hoa
    have hb11 := hal11.blk
    have he11 := hal11.b_eq
    replace hka1 := hka1.keep hal11.kp
    replace hbS := hbS.keep hal11.kp
    replace hoa := hoa.keep hal11.kp
    replace hcell := hcell.keep hal11.kp
    repeat refine zz ?_
    refine o_storeS (b := b11) (off := 0) rfl rfl rfl rfl (by repeat (first | exact ones_nil | refine ones_cons (by first | rfl | assumption) ?_)) rfl hb11 (by simp) ?_
    intro wd hu11
    have h11 : Blk wd b11 138 [.slice AP nP cP, .slice AQ nQ cQ] := hu11.blk
    have hzd := hu11.size
    have hzc := hal11.size
    have hkd : Keep w2 wd := hka1.upd hu11 (by omega)
    have hbSd := hbS.upd hu11 (by omega)
    have hoal := fun c hc => (hoa0.lt (b := c) hc).2
    have ho11 : vo0.ownBlock ≠ some b11 := fun h => by have := hoal _ h; omega
    have hod := hoa.upd hu11 ho11 (by simp)
    clear hoa hbS hb11
    have c0 : Cell wd (ea (some ⟨b11, 0, none⟩) 1 0) (.slice AP nP cP) := by have := h11.cell (i := 0) (v := .slice AP nP cP) rfl; simpa [ea, add_mk] using this
    repeat refine zz ?_
    refine W_loop (S := Nat × Value) (fun s => [(4, .pointer (some ⟨b4, 0, none⟩)), (5, .pointer (some ⟨b5, 0, none⟩)), (9, s.2), (11, .pointer (some ⟨b11, 0, none⟩)), (22, .slice (some ⟨bS, 0, none⟩) 2 2), (23, .int .i64 2), (24, .int .i64 (j : Int)), (29, .slice AP nP cP), (30, .int .i64 nP), (31, .int .i64 (s.1 : Int))]) (fun s w' => Keep w2 w' ∧ s.1 ≤ nP ∧ Blk w' bS 138 [.slice Aa na ca, .slice Ab nb cb, .slice Ab nb cb, .slice Aa na ca] ∧ Blk w' b11 138 [.slice AP nP cP, .slice AQ nQ cQ] ∧ OwnF intR w' w2.heap.size 3 s.2 (sideN L e a b j ++ keepP L e Q (P.take s.1)) [] ∧ s.2.ownBlock ≠ some bS ∧ s.2.ownBlock ≠ some b11 ∧ s.2.ownBlock.isSome = true) (fun s => nP - s.1) (0, _) ⟨rfl, rfl, rfl, rfl, rfl, rfl, rfl, rfl, rfl, rfl, trivial⟩ ⟨hkd, by omega, hbSd, h11, by simpa [keepP] using hod, hneS, ho11, hos0⟩ ?_
    clear hkd hbSd h11 hod hneS ho11 hos0 c0 hu11 hcell hoal hoa0
    rintro ⟨k, vo⟩ wb ⟨hkb1, hk, hbSb, h11b, hob, hoS, ho11, hos⟩
    dsimp only at hk hob hoS ho11 hos ⊢
    have hll : (keepP L e Q (P.take k)).length ≤ k := by have := keepP_len L e Q (P.take k); rw [List.length_take] at this; omega
    repeat refine zz ?_
    refine W_cond rfl (fun hck => ?_) (fun hck => ?_)
    · have hkl : k < nP := by simp at hck; omega
      obtain ⟨hf0, hf1⟩ := known_at hkP (i := k) (by omega)
      have hkb := hkb1
      have hLb := hL.keep hkb
      have heb := he.keep hkb
      have hPb := hP.keep hkb
      have hQb := hQ.keep hkb
      have h4b := h4.keep hkb
      have h5b := h5.keep hkb
      have c4 := h4b.cell (i := 0) (v := .slice A n c) rfl
      obtain ⟨hAP, hcP⟩ := hPb.getI (i := (k : Int)) (by omega) (by omega)
      obtain ⟨hA, u2, f2, hcell2, hu2, _⟩ := item_get hLb (i := findI L (gi P (k : Int))) (by omega) (by omega)
      have ho2 := hu2.oneCell
      have hzb := hkb.size_le
      repeat refine zz ?_
      refine W_draw (Keep wb) (by kernel_rfl) ?_
      have hS : Keep wb (World.drew wb) := Keep.drew wb
      have hzd := hS.size_le
      first|refine d_o 0 ?_|refine d_a 0 ?_|refine d_s 0 ?_|refine d_n 0 ?_|refine d_i 0 ?_|refine d_f 0 ?_|refine d_b 0 ?_|refine d_d 0 ?_|refine d_l1 0 ?_|refine d_l2 0 ?_|refine d_l3 0 ?_|refine d_l4 0 ?_|refine d_l5 0 ?_|refine d_l6 0 ?_|refine d_l7 0 ?_|refine d_l8 0 ?_|refine d_l9 0 ?_|refine d_g 0 ?_|refine d_q 0 ?_|refine d_e 0 ?_|refine d_j 0 ?_
      first|refine d_o 1 ?_|refine d_a 1 ?_|refine d_s 1 ?_|refine d_n 1 ?_|refine d_i 1 ?_|refine d_f 1 ?_|refine d_b 1 ?_|refine d_d 1 ?_|refine d_l1 1 ?_|refine d_l2 1 ?_|refine d_l3 1 ?_|refine d_l4 1 ?_|refine d_l5 1 ?_|refine d_l6 1 ?_|refine d_l7 1 ?_|refine d_l8 1 ?_|refine d_l9 1 ?_|refine d_g 1 ?_|refine d_q 1 ?_|refine d_e 1 ?_|refine d_j 1 ?_
      first|refine d_o 2 ?_|refine d_a 2 ?_|refine d_s 2 ?_|refine d_n 2 ?_|refine d_i 2 ?_|refine d_f 2 ?_|refine d_b 2 ?_|refine d_d 2 ?_|refine d_l1 2 ?_|refine d_l2 2 ?_|refine d_l3 2 ?_|refine d_l4 2 ?_|refine d_l5 2 ?_|refine d_l6 2 ?_|refine d_l7 2 ?_|refine d_l8 2 ?_|refine d_l9 2 ?_|refine d_g 2 ?_|refine d_q 2 ?_|refine d_e 2 ?_|refine d_j 2 ?_
      refine WD_two 3 6  (by kernel_rfl) rfl rfl ?_ ?_
      · refine o_call rfl rfl rfl (impl_FindItem_ok (hLb.keep hS)) ?_
        rintro _ w5 ⟨rfl, hk5⟩
        replace hS := hS.keep hk5
        have hz5 := hk5.size_le
        try replace hb14 := hb14.keep hk5
        refine WL_end ⟨hS, ?_⟩
        first|refine d_o 4 ?_|refine d_a 4 ?_|refine d_s 4 ?_|refine d_n 4 ?_|refine d_i 4 ?_|refine d_f 4 ?_|refine d_b 4 ?_|refine d_d 4 ?_|refine d_l1 4 ?_|refine d_l2 4 ?_|refine d_l3 4 ?_|refine d_l4 4 ?_|refine d_l5 4 ?_|refine d_l6 4 ?_|refine d_l7 4 ?_|refine d_l8 4 ?_|refine d_l9 4 ?_|refine d_g 4 ?_|refine d_q 4 ?_|refine d_e 4 ?_|refine d_j 4 ?_
        first|refine d_o 5 ?_|refine d_a 5 ?_|refine d_s 5 ?_|refine d_n 5 ?_|refine d_i 5 ?_|refine d_f 5 ?_|refine d_b 5 ?_|refine d_d 5 ?_|refine d_l1 5 ?_|refine d_l2 5 ?_|refine d_l3 5 ?_|refine d_l4 5 ?_|refine d_l5 5 ?_|refine d_l6 5 ?_|refine d_l7 5 ?_|refine d_l8 5 ?_|refine d_l9 5 ?_|refine d_g 5 ?_|refine d_q 5 ?_|refine d_e 5 ?_|refine d_j 5 ?_
        refine WD_one 6 (by kernel_rfl) rfl ?_
        refine o_alloc rfl rfl ?_
        intro b14 w6 hal6
        have hb14 := hal6.blk
        have he14 := hal6.b_eq
        have hz6 := hal6.size
        have hzS := hS.size_le
        replace hS := hS.keep hal6.kp
        refine WL_end ⟨hS, ?_⟩
        refine WD_one 7 (by kernel_rfl) rfl ?_
        refine o_storeS (b := b14) (off := 0) rfl rfl rfl rfl (by repeat (first | exact ones_nil | refine ones_cons (by first | rfl | assumption) ?_)) rfl hb14 (by simp) ?_
        intro w7 hu7
        have hb7 : Blk w7 b14 67 [.int .i64 (itId L (gi P (k : Int))).id, u2] := hu7.blk
        replace hS := hS.upd hu7 (by omega)
        refine WL_end ⟨hS, ?_⟩
        refine WD_done (by kernel_rfl) ?_
        clear hb14 hu7
        have hkw := hkb.keep hS
        have hLw := hLb.keep hS
        have hew := heb.keep hS
        have hPw := hPb.keep hS
        have hQw := hQb.keep hS
        have h4w := h4b.keep hS
        have h5w := h5b.keep hS
        have hSw := hbSb.keep hS
        have h11w := h11b.keep hS
        have how := hob.keep hS
        have huw := hu2.keep hS
        have hzw := hS.size_le
        have c1 : Cell w7 (ea (some ⟨b11, 0, none⟩) 1 1) (.slice AQ nQ cQ) := by have := h11w.cell (i := 1) (v := .slice AQ nQ cQ) rfl; simpa [ea, add_mk] using this
        repeat refine zz ?_
        refine WL_pure rfl rfl (o_makeFunc rfl rfl) ?_
        repeat refine zz ?_
        refine o_call rfl rfl rfl (slices_ContainsFuncI_ok (p := fun x => decide (cmpE e (itId L x) (itId L (gi P (k : Int))) = 1)) hQw (fun w' x hk' hx => merged1_ok (id := x) (hLw.keep hk') (hew.keep hk') (huw.keep hk') (h5w.keep hk') (h4w.keep hk') (hb7.keep hk') hex hitI (hitI _ hf0 (by omega)) (known_mem hkQ hx).1 (by have := (known_mem hkQ hx).2; omega))) ?_
        rintro _ w8 ⟨rfl, hk8⟩
        have hz8 := hk8.size_le
        have hany : (!anyB Q.length fun i => decide (cmpE e (itId L (gi Q (i : Int))) (itId L (gi P (k : Int))) = 1)) = survB L e Q (gi P (k : Int)) := by rw [survB, ← surv_any]
        have hstep := keepP_step (L := L) (e := e) (o := Q) (xs := P) (k := k) (by omega)
        repeat refine zz ?_
        rw [hany]
        repeat refine zz ?_
        refine W_cond rfl (fun hd => ?_) (fun hd => ?_)
        · repeat refine zz ?_
          refine o_buildSlice rfl rfl rfl rfl rfl (by simp [Value.cells]) (by omega) ?_
          intro b9 w9 hal9
          have hk9 := hk8.keep hal9.kp
          have hz9 := hal9.size
          have ho9 := how.keep hk9
          repeat refine zz ?_
          refine o_appendG (R := intR) (M := _) (gi := []) rfl rfl rfl rfl rfl (by decide) ho9 (Blk.src (xs := [gi P (k : Int)]) hal9.blk (Rows.ints _ _)) rfl (Fresh.nil _ _) (fun b hb => by simp at hb) (fun b hb => (ho9.lt hb).2) (fun b hb => by simp at hb) (by simp only [List.length_append, List.length_cons, List.length_nil]; omega) (by simp only [List.length_append, List.length_cons, List.length_nil]; omega) (by omega) ?_
          intro vN wN hoN hbN hgN hvN
          repeat refine zz ?_
          rw [if_pos hd] at hstep
          have hne : ∀ c, c < w9.heap.size → vo.ownBlock ≠ some c → vN.ownBlock ≠ some c := fun c h1 h2 h3 => by
            rcases hvN with h | h
            · rw [h] at h3; exact h2 h3
            · rw [h] at h3; simp only [Option.some.injEq] at h3; omega
          have hb11l := h11w.lt
          have hbSl := hSw.lt
          refine ⟨(k + 1, vN), ⟨rfl, rfl, rfl, rfl, rfl, rfl, rfl, rfl, rfl, rfl, trivial⟩, ⟨(hkw.keep hk9).grown hgN (fun b hb => (ho9.lt hb).1), by dsimp only; omega, (hSw.keep hk9).grown hgN (fun e => hoS e.symm), (h11w.keep hk9).grown hgN (fun e => ho11 e.symm), ?_, hne _ (by omega) hoS, hne _ (by omega) ho11, ?_⟩, by dsimp only; omega⟩
          · dsimp only
            rw [hstep]; simpa only [List.append_assoc, List.append_nil] using hoN
          · dsimp only
            rcases hvN with h | h
            · rw [h]; exact hos
            · rw [h]; rfl
        · repeat refine zz ?_
          rw [if_neg (by simp [hd]), List.append_nil] at hstep
          refine ⟨(k + 1, vo), ⟨rfl, rfl, rfl, rfl, rfl, rfl, rfl, rfl, rfl, rfl, trivial⟩, ⟨hkw.keep hk8, by dsimp only; omega, hSw.keep hk8, h11w.keep hk8, ?_, hoS, ho11, hos⟩, by dsimp only; omega⟩
          dsimp only
          rw [hstep]; exact how.keep hk8
      · refine o_alloc rfl rfl ?_
        intro b14 w6 hal6
        have hb14 := hal6.blk
        have he14 := hal6.b_eq
        have hz6 := hal6.size
        have hzS := hS.size_le
        replace hS := hS.keep hal6.kp
        refine WL_end ⟨hS, ?_⟩
        refine WD_one 3 (by kernel_rfl) rfl ?_
        refine o_call rfl rfl rfl (impl_FindItem_ok (hLb.keep hS)) ?_
        rintro _ w5 ⟨rfl, hk5⟩
        replace hS := hS.keep hk5
        have hz5 := hk5.size_le
        try replace hb14 := hb14.keep hk5
        refine WL_end ⟨hS, ?_⟩
        first|refine d_o 4 ?_|refine d_a 4 ?_|refine d_s 4 ?_|refine d_n 4 ?_|refine d_i 4 ?_|refine d_f 4 ?_|refine d_b 4 ?_|refine d_d 4 ?_|refine d_l1 4 ?_|refine d_l2 4 ?_|refine d_l3 4 ?_|refine d_l4 4 ?_|refine d_l5 4 ?_|refine d_l6 4 ?_|refine d_l7 4 ?_|refine d_l8 4 ?_|refine d_l9 4 ?_|refine d_g 4 ?_|refine d_q 4 ?_|refine d_e 4 ?_|refine d_j 4 ?_
        first|refine d_o 5 ?_|refine d_a 5 ?_|refine d_s 5 ?_|refine d_n 5 ?_|refine d_i 5 ?_|refine d_f 5 ?_|refine d_b 5 ?_|refine d_d 5 ?_|refine d_l1 5 ?_|refine d_l2 5 ?_|refine d_l3 5 ?_|refine d_l4 5 ?_|refine d_l5 5 ?_|refine d_l6 5 ?_|refine d_l7 5 ?_|refine d_l8 5 ?_|refine d_l9 5 ?_|refine d_g 5 ?_|refine d_q 5 ?_|refine d_e 5 ?_|refine d_j 5 ?_
        refine WD_one 7 (by kernel_rfl) rfl ?_
        refine o_storeS (b := b14) (off := 0) rfl rfl rfl rfl (by repeat (first | exact ones_nil | refine ones_cons (by first | rfl | assumption) ?_)) rfl hb14 (by simp) ?_
        intro w7 hu7
        have hb7 : Blk w7 b14 67 [.int .i64 (itId L (gi P (k : Int))).id, u2] := hu7.blk
        replace hS := hS.upd hu7 (by omega)
        refine WL_end ⟨hS, ?_⟩
        refine WD_done (by kernel_rfl) ?_
        clear hb14 hu7
        have hkw := hkb.keep hS
        have hLw := hLb.keep hS
        have hew := heb.keep hS
        have hPw := hPb.keep hS
        have hQw := hQb.keep hS
        have h4w := h4b.keep hS
        have h5w := h5b.keep hS
        have hSw := hbSb.keep hS
        have h11w := h11b.keep hS
        have how := hob.keep hS
        have huw := hu2.keep hS
        have hzw := hS.size_le
        have c1 : Cell w7 (ea (some ⟨b11, 0, none⟩) 1 1) (.slice AQ nQ cQ) := by have := h11w.cell (i := 1) (v := .slice AQ nQ cQ) rfl; simpa [ea, add_mk] using this
        repeat refine zz ?_
        refine WL_pure rfl rfl (o_makeFunc rfl rfl) ?_
        repeat refine zz ?_
        refine o_call rfl rfl rfl (slices_ContainsFuncI_ok (p := fun x => decide (cmpE e (itId L x) (itId L (gi P (k : Int))) = 1)) hQw (fun w' x hk' hx => merged1_ok (id := x) (hLw.keep hk') (hew.keep hk') (huw.keep hk') (h5w.keep hk') (h4w.keep hk') (hb7.keep hk') hex hitI (hitI _ hf0 (by omega)) (known_mem hkQ hx).1 (by have := (known_mem hkQ hx).2; omega))) ?_
        rintro _ w8 ⟨rfl, hk8⟩
        have hz8 := hk8.size_le
        have hany : (!anyB Q.length fun i => decide (cmpE e (itId L (gi Q (i : Int))) (itId L (gi P (k : Int))) = 1)) = survB L e Q (gi P (k : Int)) := by rw [survB, ← surv_any]
        have hstep := keepP_step (L := L) (e := e) (o := Q) (xs := P) (k := k) (by omega)
        repeat refine zz ?_
        rw [hany]
        repeat refine zz ?_
        refine W_cond rfl (fun hd => ?_) (fun hd => ?_)
        · repeat refine zz ?_
          refine o_buildSlice rfl rfl rfl rfl rfl (by simp [Value.cells]) (by omega) ?_
          intro b9 w9 hal9
          have hk9 := hk8.keep hal9.kp
          have hz9 := hal9.size
          have ho9 := how.keep hk9
          repeat refine zz ?_
          refine o_appendG (R := intR) (M := _) (gi := []) rfl rfl rfl rfl rfl (by decide) ho9 (Blk.src (xs := [gi P (k : Int)]) hal9.blk (Rows.ints _ _)) rfl (Fresh.nil _ _) (fun b hb => by simp at hb) (fun b hb => (ho9.lt hb).2) (fun b hb => by simp at hb) (by simp only [List.length_append, List.length_cons, List.length_nil]; omega) (by simp only [List.length_append, List.length_cons, List.length_nil]; omega) (by omega) ?_
          intro vN wN hoN hbN hgN hvN
          repeat refine zz ?_
          rw [if_pos hd] at hstep
          have hne : ∀ c, c < w9.heap.size → vo.ownBlock ≠ some c → vN.ownBlock ≠ some c := fun c h1 h2 h3 => by
            rcases hvN with h | h
            · rw [h] at h3; exact h2 h3
            · rw [h] at h3; simp only [Option.some.injEq] at h3; omega
          have hb11l := h11w.lt
          have hbSl := hSw.lt
          refine ⟨(k + 1, vN), ⟨rfl, rfl, rfl, rfl, rfl, rfl, rfl, rfl, rfl, rfl, trivial⟩, ⟨(hkw.keep hk9).grown hgN (fun b hb => (ho9.lt hb).1), by dsimp only; omega, (hSw.keep hk9).grown hgN (fun e => hoS e.symm), (h11w.keep hk9).grown hgN (fun e => ho11 e.symm), ?_, hne _ (by omega) hoS, hne _ (by omega) ho11, ?_⟩, by dsimp only; omega⟩
          · dsimp only
            rw [hstep]; simpa only [List.append_assoc, List.append_nil] using hoN
          · dsimp only
            rcases hvN with h | h
            · rw [h]; exact hos
            · rw [h]; rfl
        · repeat refine zz ?_
          rw [if_neg (by simp [hd]), List.append_nil] at hstep
          refine ⟨(k + 1, vo), ⟨rfl, rfl, rfl, rfl, rfl, rfl, rfl, rfl, rfl, rfl, trivial⟩, ⟨hkw.keep hk8, by dsimp only; omega, hSw.keep hk8, h11w.keep hk8, ?_, hoS, ho11, hos⟩, by dsimp only; omega⟩
          dsimp only
          rw [hstep]; exact how.keep hk8
    · simp at hck
      obtain rfl : k = nP := by omega
      rw [hPn, List.take_length, ← hss] at hob
      repeat refine zz ?_
      exact ⟨(j + 1, vo), ⟨rfl, rfl, rfl, rfl, rfl, rfl, trivial⟩, ⟨hkb1, by dsimp only; omega, hbSb, hob, hoS, hos⟩, by dsimp only; omega⟩
  · simp at hc
    obtain rfl : j = 2 := by omega
    have hm2 : sideN L e a b 2 = mrgU L e a b := side_two L e a b
    rw [hm2] at hoa hsl
    obtain ⟨bo, hbo⟩ := Option.isSome_iff_exists.1 hos0
    repeat refine zz ?_
    refine o_call rfl rfl rfl (slices_Sort_ok hoa hbo (by omega)) ?_
    rintro _ wz ⟨rfl, hgz, hoz⟩
    obtain ⟨fz, hsz, hfz⟩ := hoz.sl (by decide)
    repeat refine zz ?_
    exact ret1 rfl rfl ⟨hk1.keep (hka1.grown hgz (fun b hb => by simp only [Option.some.injEq] at hb; exact hb ▸ (hoa.lt hbo).1)), fz, hsz, hfz.mono hk1.size_le⟩

theorem impl_MergeBest_ok {w : World} {v u va vb : Value} {L : List Itm} {e : List Nod} {a b : List Int} {fp gp fa fb : List Nat} (hL : Sl itemR w v L fp) (he : Sl nodeR w u e gp) (ha : Sl intR w va a fa) (hb : Sl intR w vb b fb)
    (hn : e.length + totN e ≤ 1048576) (hna : a.length ≤ 1048576) (hnb : b.length ≤ 1048576) :
    Run Tryz.prog 30 [v, u, va, vb] w (fun r w' => Keep w w' ∧ ∃ fp, Sl intR w' r (mergeBest L e a b) fp ∧ Fresh w.heap.size w' fp) := by
  refine Run_intro Tryz.func30 (by unfold CallOk; kernel_rfl) rfl Tryz.ntmps30 (Nat.le_of_ble_eq_true rfl) ?_
  simp only [penv, Nat.reduceAdd, Nat.zero_add]
  repeat refine zz ?_
  refine o_call rfl rfl rfl (areBoth_ok hL he hn) ?_
  rintro _ w1 ⟨rfl, hk1⟩
  replace hL := hL.keep hk1
  replace he := he.keep hk1
  replace ha := ha.keep hk1
  replace hb := hb.keep hk1
  repeat refine zz ?_
  refine WL_part rfl rfl (fun h1 => ?_) (fun h1 => ?_)
  · repeat refine zz ?_
    refine o_buildSlice rfl rfl rfl rfl rfl (by intro p hp; cases hp) (by omega) ?_
    intro bO wO halO
    have hkO := halO.kp
    have ho0 : OwnF intR wO w.heap.size 3 (.slice (some ⟨bO, 0, none⟩) 0 0) [] [] := OwnF.made halO.blk (by have := halO.b_eq; have := hk1.size_le; omega)
    obtain ⟨fp, hs, hf⟩ := ho0.sl (by decide)
    repeat refine zz ?_
    simp at h1
    exact ret1 rfl rfl ⟨hk1.keep hkO, fp, by rw [mergeBest, if_neg (by simp [h1])]; exact hs, hf⟩
  simp at h1
  obtain ⟨hit, hln, hex⟩ := fine_ok h1
  repeat refine zz ?_
  refine o_call rfl rfl rfl (areIds_ok hL ha) ?_
  rintro _ w2 ⟨rfl, hk2⟩
  replace hL := hL.keep hk2
  replace he := he.keep hk2
  replace ha := ha.keep hk2
  replace hb := hb.keep hk2
  replace hk1 := hk1.keep hk2
  repeat refine zz ?_
  refine WL_part rfl rfl (fun h2 => ?_) (fun h2 => ?_)
  · repeat refine zz ?_
    refine o_buildSlice rfl rfl rfl rfl rfl (by intro p hp; cases hp) (by omega) ?_
    intro bO wO halO
    have hkO := halO.kp
    have ho0 : OwnF intR wO w.heap.size 3 (.slice (some ⟨bO, 0, none⟩) 0 0) [] [] := OwnF.made halO.blk (by have := halO.b_eq; have := hk1.size_le; omega)
    obtain ⟨fp, hs, hf⟩ := ho0.sl (by decide)
    repeat refine zz ?_
    simp at h2
    exact ret1 rfl rfl ⟨hk1.keep hkO, fp, by rw [mergeBest, if_neg (by simp [h2])]; exact hs, hf⟩
  simp at h2
  repeat refine zz ?_
  refine o_call rfl rfl rfl (areIds_ok hL hb) ?_
  rintro _ w3 ⟨rfl, hk3⟩
  replace hL := hL.keep hk3
  replace he := he.keep hk3
  replace ha := ha.keep hk3
  replace hb := hb.keep hk3
  replace hk1 := hk1.keep hk3
  repeat refine zz ?_
  refine W_cond rfl (fun h3 => ?_) (fun h3 => ?_)
  · repeat refine zz ?_
    refine o_buildSlice rfl rfl rfl rfl rfl (by intro p hp; cases hp) (by omega) ?_
    intro bO wO halO
    have hkO := halO.kp
    have ho0 : OwnF intR wO w.heap.size 3 (.slice (some ⟨bO, 0, none⟩) 0 0) [] [] := OwnF.made halO.blk (by have := halO.b_eq; have := hk1.size_le; omega)
    obtain ⟨fp, hs, hf⟩ := ho0.sl (by decide)
    repeat refine zz ?_
    simp at h3
    exact ret1 rfl rfl ⟨hk1.keep hkO, fp, by rw [mergeBest, if_neg (by simp [h3])]; exact hs, hf⟩
  simp at h3
  repeat refine zz ?_
  refine o_call rfl rfl rfl (merged_ok hL he ha hb hex hit hna hnb h2 h3) ?_
  rintro vr w4 ⟨hk4, fr, hsr, hfr⟩
  repeat refine zz ?_
  exact ret1 rfl rfl ⟨hk1.keep hk4, fr, by rw [mergeBest, if_pos (by simp [h1, h2, h3])]; exact hsr, hfr.mono hk1.size_le⟩
end Go.E

/-
  Contracts: the smallest set of items with a regret, by the program. Conditions: as stated.
-/
import Derived.Test.YtoemiahnilmdlaaSs
set_option linter.unusedVariables false
set_option linter.unusedSimpArgs false
namespace Go.E
open Go Go.RowKit Go.Proofs
/-- what the search for a set hands back -/
def ChRes (B : Nat) (w' : World) (res : Value) : Option (List Int) → Prop
  | none => res = .slice none 0 0
  | some t => ∃ ad n c f, res = .slice (some ad) n c ∧ Sl intR w' res t f ∧ Fresh B w' f
attribute [local irreducible] W WL WD WE thenE inE retQ PureOp Keep Cell Cells Blk Sl Rows Own Src Fresh
attribute [local irreducible] okSet smOk regret areItems


set_option maxHeartbeats 4000000 in
theorem choose_ok {L : List Itm} {p q : Int} (hp : 0 ≤ p ∧ p ≤ 100) (hq : 1 ≤ q ∧ q ≤ 100) (hl8 : L.length ≤ 8) {B bl bd bn ba bc : Nat} {t1 t2 t3 t4 t5 : TypeId} {vl vi : Value} : ∀ (r from_ : Nat), from_ ≤ L.length → ∀ {w : World} {fL fI : List Nat} {set : List Int} {ad : Addr} {n c : Nat} {fs : List Nat},
    Sl intR w (.slice (some ad) n c) set fs → Fresh B w fs → B ≤ w.heap.size → set.length ≤ from_ →
    Blk w bl t1 [vl] → Sl itemR w vl L fL → Blk w bd t2 [.int .i64 q] → Blk w bn t3 [.int .i64 p] → Blk w ba t4 [vi] → Sl intR w vi (idsOf L) fI →
    Blk w bc t5 [.func (.func 112) ([] : List Value).toArray [.pointer (some ⟨bl, 0, none⟩), .pointer (some ⟨bd, 0, none⟩), .pointer (some ⟨bn, 0, none⟩), .pointer (some ⟨ba, 0, none⟩), .pointer (some ⟨bc, 0, none⟩)].toArray] →
    Run Try.prog 112 [.slice (some ad) n c, .int .i64 (from_ : Int), .int .i64 ((set.length + r : Nat) : Int), .pointer (some ⟨bl, 0, none⟩), .pointer (some ⟨bd, 0, none⟩), .pointer (some ⟨bn, 0, none⟩), .pointer (some ⟨ba, 0, none⟩), .pointer (some ⟨bc, 0, none⟩)] w
      (fun res w' => Keep w w' ∧ ChRes B w' res (chs (okSet L p q) ((idsOf L).drop from_) r set)) := by
  intro r
  have hok : ∀ ids, decide ((regret L ids).1 * q ≤ p * (regret L ids).2.1) = okSet L p q ids := fun ids => by unfold okSet; rfl
  induction r with
  | zero =>
    intro from_ hfr w fL fI set ad n c fs hs hf hB hs8 hbl hL hbd hbn hba hI hbc
    have hnx := hs.len
    obtain ⟨hbd1, hbd2⟩ := okSet_bd L set (p := p) (q := q) hp hq
    have cl := hbl.cell (i := 0) (v := vl) rfl
    have cd := hbd.cell (i := 0) (v := .int .i64 q) rfl
    have cn := hbn.cell (i := 0) (v := .int .i64 p) rfl
    refine Run_intro Try.func112 (by unfold CallOk; kernel_rfl) rfl Try.ntmps112 (Nat.le_of_ble_eq_true rfl) ?_
    simp only [penv, Nat.reduceAdd, Nat.zero_add]
    repeat refine zz ?_
    refine W_cond rfl (fun h0 => ?_) (fun h0 => ?_)
    · repeat refine zz ?_
      refine o_call rfl rfl rfl (impl_RegretOf_ok hL hs) ?_
      rintro _ w4 ⟨k4, u4, f4, rfl, hs4, _⟩
      replace cd := cd.keep k4
      replace cn := cn.keep k4
      replace hs := hs.keep k4
      replace hf := hf.keep k4
      repeat refine zz ?_
      refine WL_pure rfl rfl (o_mul rfl rfl hbd1) ?_
      repeat refine zz ?_
      refine WL_pure rfl rfl (o_mul rfl rfl hbd2) ?_
      repeat refine zz ?_
      rw [hok]
      refine W_cond rfl (fun hd => ?_) (fun hd => ?_)
      · repeat refine zz ?_
        exact ret1 rfl rfl ⟨k4, by rw [chs_zero, if_pos hd]; exact ⟨ad, n, c, fs, rfl, hs, hf⟩⟩
      · repeat refine zz ?_
        exact ret1 rfl rfl ⟨k4, by rw [chs_zero, if_neg (by simp [hd])]; rfl⟩
    · simp at h0; omega
  | succ r ih =>
    intro from_ hfr w fL fI set ad n c fs hs hf hB hs8 hbl hL hbd hbn hba hI hbc
    have hnx := hs.len
    have hil := idsOf_len L
    obtain ⟨AI, nI, cI, rfl, hnI⟩ := hI.split
    refine Run_intro Try.func112 (by unfold CallOk; kernel_rfl) rfl Try.ntmps112 (Nat.le_of_ble_eq_true rfl) ?_
    simp only [penv, Nat.reduceAdd, Nat.zero_add]
    repeat refine zz ?_
    refine W_cond rfl (fun h0 => ?_) (fun h0 => ?_)
    · simp at h0; omega
    simp at h0
    repeat refine zz ?_
    refine W_loop (S := Nat) (fun i => [(0, .slice (some ad) n c), (2, .int .i64 ((set.length + (r + 1) : Nat) : Int)), (3, .pointer (some ⟨bl, 0, none⟩)), (4, .pointer (some ⟨bd, 0, none⟩)), (5, .pointer (some ⟨bn, 0, none⟩)), (6, .pointer (some ⟨ba, 0, none⟩)), (7, .pointer (some ⟨bc, 0, none⟩)), (15, .int .i64 (i : Int))]) (fun i w' => Keep w w' ∧ (from_ ≤ i ∧ i ≤ nI) ∧ chs (okSet L p q) ((idsOf L).drop from_) (r + 1) set = chs (okSet L p q) ((idsOf L).drop i) (r + 1) set) (fun i => nI - i) from_ ⟨rfl, rfl, rfl, rfl, rfl, rfl, rfl, rfl, trivial⟩ ⟨Keep.refl _, by omega, rfl⟩ ?_
    rintro i wa ⟨hka, hi, hre⟩
    have hza := hka.size_le
    replace hs := hs.keep hka
    replace hf := hf.keep hka
    replace hbl := hbl.keep hka
    replace hL := hL.keep hka
    replace hbd := hbd.keep hka
    replace hbn := hbn.keep hka
    replace hba := hba.keep hka
    replace hI := hI.keep hka
    replace hbc := hbc.keep hka
    have ca := hba.cell (i := 0) (v := .slice AI nI cI) rfl
    have cc := hbc.cell (i := 0) (v := _) rfl
    repeat refine zz ?_
    refine W_cond rfl (fun hc => ?_) (fun hc => ?_)
    · have hil2 : i < nI := by simp at hc; omega
      obtain ⟨hAI, hci⟩ := hI.getI (i := (i : Int)) (by omega) (by omega)
      repeat refine zz ?_
      refine W_draw (Keep wa) (by kernel_rfl) ?_
      have hS : Keep wa (World.drew wa) := Keep.drew wa
      have hS0 := hS.size_le
      first|refine d_o 0 ?_|refine d_a 0 ?_|refine d_s 0 ?_|refine d_n 0 ?_|refine d_i 0 ?_|refine d_f 0 ?_|refine d_b 0 ?_|refine d_d 0 ?_|refine d_l1 0 ?_|refine d_l2 0 ?_|refine d_l3 0 ?_|refine d_l4 0 ?_|refine d_l5 0 ?_|refine d_l6 0 ?_|refine d_l7 0 ?_|refine d_l8 0 ?_|refine d_l9 0 ?_|refine d_g 0 ?_|refine d_q 0 ?_|refine d_e 0 ?_|refine d_j 0 ?_
      first|refine d_o 1 ?_|refine d_a 1 ?_|refine d_s 1 ?_|refine d_n 1 ?_|refine d_i 1 ?_|refine d_f 1 ?_|refine d_b 1 ?_|refine d_d 1 ?_|refine d_l1 1 ?_|refine d_l2 1 ?_|refine d_l3 1 ?_|refine d_l4 1 ?_|refine d_l5 1 ?_|refine d_l6 1 ?_|refine d_l7 1 ?_|refine d_l8 1 ?_|refine d_l9 1 ?_|refine d_g 1 ?_|refine d_q 1 ?_|refine d_e 1 ?_|refine d_j 1 ?_
      first|refine d_o 3 ?_|refine d_a 3 ?_|refine d_s 3 ?_|refine d_n 3 ?_|refine d_i 3 ?_|refine d_f 3 ?_|refine d_b 3 ?_|refine d_d 3 ?_|refine d_l1 3 ?_|refine d_l2 3 ?_|refine d_l3 3 ?_|refine d_l4 3 ?_|refine d_l5 3 ?_|refine d_l6 3 ?_|refine d_l7 3 ?_|refine d_l8 3 ?_|refine d_l9 3 ?_|refine d_g 3 ?_|refine d_q 3 ?_|refine d_e 3 ?_|refine d_j 3 ?_
      first|refine d_o 4 ?_|refine d_a 4 ?_|refine d_s 4 ?_|refine d_n 4 ?_|refine d_i 4 ?_|refine d_f 4 ?_|refine d_b 4 ?_|refine d_d 4 ?_|refine d_l1 4 ?_|refine d_l2 4 ?_|refine d_l3 4 ?_|refine d_l4 4 ?_|refine d_l5 4 ?_|refine d_l6 4 ?_|refine d_l7 4 ?_|refine d_l8 4 ?_|refine d_l9 4 ?_|refine d_g 4 ?_|refine d_q 4 ?_|refine d_e 4 ?_|refine d_j 4 ?_
      first|refine d_o 5 ?_|refine d_a 5 ?_|refine d_s 5 ?_|refine d_n 5 ?_|refine d_i 5 ?_|refine d_f 5 ?_|refine d_b 5 ?_|refine d_d 5 ?_|refine d_l1 5 ?_|refine d_l2 5 ?_|refine d_l3 5 ?_|refine d_l4 5 ?_|refine d_l5 5 ?_|refine d_l6 5 ?_|refine d_l7 5 ?_|refine d_l8 5 ?_|refine d_l9 5 ?_|refine d_g 5 ?_|refine d_q 5 ?_|refine d_e 5 ?_|refine d_j 5 ?_
      first|refine d_o 6 ?_|refine d_a 6 ?_|refine d_s 6 ?_|refine d_n 6 ?_|refine d_i 6 ?_|refine d_f 6 ?_|refine d_b 6 ?_|refine d_d 6 ?_|refine d_l1 6 ?_|refine d_l2 6 ?_|refine d_l3 6 ?_|refine d_l4 6 ?_|refine d_l5 6 ?_|refine d_l6 6 ?_|refine d_l7 6 ?_|refine d_l8 6 ?_|refine d_l9 6 ?_|refine d_g 6 ?_|refine d_q 6 ?_|refine d_e 6 ?_|refine d_j 6 ?_
      first|refine d_o 9 ?_|refine d_a 9 ?_|refine d_s 9 ?_|refine d_n 9 ?_|refine d_i 9 ?_|refine d_f 9 ?_|refine d_b 9 ?_|refine d_d 9 ?_|refine d_l1 9 ?_|refine d_l2 9 ?_|refine d_l3 9 ?_|refine d_l4 9 ?_|refine d_l5 9 ?_|refine d_l6 9 ?_|refine d_l7 9 ?_|refine d_l8 9 ?_|refine d_l9 9 ?_|refine d_g 9 ?_|refine d_q 9 ?_|refine d_e 9 ?_|refine d_j 9 ?_
      first|refine d_o 10 ?_|refine d_a 10 ?_|refine d_s 10 ?_|refine d_n 10 ?_|refine d_i 10 ?_|refine d_f 10 ?_|refine d_b 10 ?_|refine d_d 10 ?_|refine d_l1 10 ?_|refine d_l2 10 ?_|refine d_l3 10 ?_|refine d_l4 10 ?_|refine d_l5 10 ?_|refine d_l6 10 ?_|refine d_l7 10 ?_|refine d_l8 10 ?_|refine d_l9 10 ?_|refine d_g 10 ?_|refine d_q 10 ?_|refine d_e 10 ?_|refine d_j 10 ?_
      first|refine d_o 11 ?_|refine d_a 11 ?_|refine d_s 11 ?_|refine d_n 11 ?_|refine d_i 11 ?_|refine d_f 11 ?_|refine d_b 11 ?_|refine d_d 11 ?_|refine d_l1 11 ?_|refine d_l2 11 ?_|refine d_l3 11 ?_|refine d_l4 11 ?_|refine d_l5 11 ?_|refine d_l6 11 ?_|refine d_l7 11 ?_|refine d_l8 11 ?_|refine d_l9 11 ?_|refine d_g 11 ?_|refine d_q 11 ?_|refine d_e 11 ?_|refine d_j 11 ?_
      refine WD_two 2 7  (by kernel_rfl) rfl rfl ?_ ?_
      · refine o_call rfl rfl rfl (copyInts_own (hs.keep hS) (by omega)) ?_
        rintro v5 w5 ⟨hk5, ho5⟩
        replace ho5 := ho5.base (base' := wa.heap.size) (by have := hS.size_le; omega)
        replace hS := hS.keep hk5
        have hS5 := hS.size_le
        try replace hb7 := hb7.keep hk5
        refine WL_end ⟨hS, ?_⟩
        refine WD_one 7 (by kernel_rfl) rfl ?_
        refine o_buildSlice rfl rfl rfl rfl rfl (by simp [Value.cells]) (by omega) ?_
        intro b7 w7 hal7
        replace hS := hS.keep hal7.kp
        have hS7 := hS.size_le
        have hb7 := hal7.blk
        try replace ho5 := ho5.keep hal7.kp
        refine WL_end ⟨hS, ?_⟩
        refine WD_one 8 (by kernel_rfl) rfl ?_
        refine o_appendF (R := intR) (M := _) (gi := []) rfl rfl rfl rfl rfl (by decide) ho5 (Blk.src (xs := [gi (idsOf L) (i : Int)]) hb7 (Rows.ints _ _)) rfl (Fresh.nil _ _) (fun b hb => by simp at hb) (fun b hb => (ho5.lt hb).2) (fun b hb => by simp at hb) (by simp only [List.length_cons, List.length_nil]; omega) (by simp only [List.length_cons, List.length_nil]; omega) (by omega) ?_
        intro v8 w8 ho8 hb8 hg8
        replace hS := hS.grown hg8 (fun b hb => (ho5.lt hb).1)
        have hS8 := hS.size_le
        obtain ⟨f8, hs8, hf8⟩ := ho8.sl (by decide)
        obtain ⟨A8, n8, c8, rfl, hn8⟩ := hs8.split
        obtain ⟨hA8, _⟩ := hs8.getI (i := 0) (by omega) (by simp at hn8; omega)
        obtain ⟨ad8, rfl⟩ := Option.isSome_iff_exists.1 hA8
        refine WL_end ⟨hS, ?_⟩
        refine WD_one 12 (by kernel_rfl) rfl ?_
        have hih := ih (i + 1) (by omega) hs8 (hf8.mono (B' := B) (by omega)) (by omega) (by simp; omega) (hbl.keep hS) (hL.keep hS) (hbd.keep hS) (hbn.keep hS) (hba.keep hS) (hI.keep hS) (hbc.keep hS)
        have e1 : ((i + 1 : Nat) : Int) = (i : Int) + 1 := by omega
        have e2 : (((set ++ [gi (idsOf L) (i : Int)]).length + r : Nat) : Int) = ((set.length + (r + 1) : Nat) : Int) := by simp; omega
        rw [e1, e2] at hih
        refine o_callv rfl rfl rfl rfl hih ?_
        rintro v9 w9 ⟨hk9, hr9⟩
        replace hS := hS.keep hk9
        refine WL_end ⟨hS, ?_⟩
        first|refine d_o 13 ?_|refine d_a 13 ?_|refine d_s 13 ?_|refine d_n 13 ?_|refine d_i 13 ?_|refine d_f 13 ?_|refine d_b 13 ?_|refine d_d 13 ?_|refine d_l1 13 ?_|refine d_l2 13 ?_|refine d_l3 13 ?_|refine d_l4 13 ?_|refine d_l5 13 ?_|refine d_l6 13 ?_|refine d_l7 13 ?_|refine d_l8 13 ?_|refine d_l9 13 ?_|refine d_g 13 ?_|refine d_q 13 ?_|refine d_e 13 ?_|refine d_j 13 ?_
        refine WD_done (by kernel_rfl) ?_
        have hdr := drop_gi (xs := idsOf L) (k := i) (by omega)
        cases hc9 : chs (okSet L p q) ((idsOf L).drop (i + 1)) r (set ++ [gi (idsOf L) (i : Int)]) with
        | some t =>
          rw [hc9] at hr9
          obtain ⟨ad, n9, c9, f9, rfl, hs9, hf9⟩ := hr9
          repeat refine zz ?_
          refine WL_pure rfl rfl (o_neqNil rfl rfl) ?_
          repeat refine zz ?_
          exact ret1 rfl rfl ⟨hka.keep hS, by rw [hre, hdr, chs_hit hc9]; exact ⟨ad, n9, c9, f9, rfl, hs9, hf9⟩⟩
        | none =>
          rw [hc9] at hr9
          obtain rfl : v9 = _ := hr9
          repeat refine zz ?_
          refine WL_pure rfl rfl (o_neqNil rfl rfl) ?_
          repeat refine zz ?_
          exact ⟨i + 1, ⟨rfl, rfl, rfl, rfl, rfl, rfl, rfl, rfl, trivial⟩, ⟨hka.keep hS, by omega, by rw [hre, hdr, chs_miss hc9]⟩, by omega⟩
      · refine o_buildSlice rfl rfl rfl rfl rfl (by simp [Value.cells]) (by omega) ?_
        intro b7 w7 hal7
        replace hS := hS.keep hal7.kp
        have hS7 := hS.size_le
        have hb7 := hal7.blk
        try replace ho5 := ho5.keep hal7.kp
        refine WL_end ⟨hS, ?_⟩
        refine WD_one 2 (by kernel_rfl) rfl ?_
        refine o_call rfl rfl rfl (copyInts_own (hs.keep hS) (by omega)) ?_
        rintro v5 w5 ⟨hk5, ho5⟩
        replace ho5 := ho5.base (base' := wa.heap.size) (by have := hS.size_le; omega)
        replace hS := hS.keep hk5
        have hS5 := hS.size_le
        try replace hb7 := hb7.keep hk5
        refine WL_end ⟨hS, ?_⟩
        refine WD_one 8 (by kernel_rfl) rfl ?_
        refine o_appendF (R := intR) (M := _) (gi := []) rfl rfl rfl rfl rfl (by decide) ho5 (Blk.src (xs := [gi (idsOf L) (i : Int)]) hb7 (Rows.ints _ _)) rfl (Fresh.nil _ _) (fun b hb => by simp at hb) (fun b hb => (ho5.lt hb).2) (fun b hb => by simp at hb) (by simp only [List.length_cons, List.length_nil]; omega) (by simp only [List.length_cons, List.length_nil]; omega) (by omega) ?_
        intro v8 w8 ho8 hb8 hg8
        replace hS := hS.grown hg8 (fun b hb => (ho5.lt hb).1)
        have hS8 := hS.size_le
        obtain ⟨f8, hs8, hf8⟩ := ho8.sl (by decide)
        obtain ⟨A8, n8, c8, rfl, hn8⟩ := hs8.split
        obtain ⟨hA8, _⟩ := hs8.getI (i := 0) (by omega) (by simp at hn8; omega)
        obtain ⟨ad8, rfl⟩ := Option.isSome_iff_exists.1 hA8
        refine WL_end ⟨hS, ?_⟩
        refine WD_one 12 (by kernel_rfl) rfl ?_
        have hih := ih (i + 1) (by omega) hs8 (hf8.mono (B' := B) (by omega)) (by omega) (by simp; omega) (hbl.keep hS) (hL.keep hS) (hbd.keep hS) (hbn.keep hS) (hba.keep hS) (hI.keep hS) (hbc.keep hS)
        have e1 : ((i + 1 : Nat) : Int) = (i : Int) + 1 := by omega
        have e2 : (((set ++ [gi (idsOf L) (i : Int)]).length + r : Nat) : Int) = ((set.length + (r + 1) : Nat) : Int) := by simp; omega
        rw [e1, e2] at hih
        refine o_callv rfl rfl rfl rfl hih ?_
        rintro v9 w9 ⟨hk9, hr9⟩
        replace hS := hS.keep hk9
        refine WL_end ⟨hS, ?_⟩
        first|refine d_o 13 ?_|refine d_a 13 ?_|refine d_s 13 ?_|refine d_n 13 ?_|refine d_i 13 ?_|refine d_f 13 ?_|refine d_b 13 ?_|refine d_d 13 ?_|refine d_l1 13 ?_|refine d_l2 13 ?_|refine d_l3 13 ?_|refine d_l4 13 ?_|refine d_l5 13 ?_|refine d_l6 13 ?_|refine d_l7 13 ?_|refine d_l8 13 ?_|refine d_l9 13 ?_|refine d_g 13 ?_|refine d_q 13 ?_|refine d_e 13 ?_|refine d_j 13 ?_
        refine WD_done (by kernel_rfl) ?_
        have hdr := drop_gi (xs := idsOf L) (k := i) (by omega)
        cases hc9 : chs (okSet L p q) ((idsOf L).drop (i + 1)) r (set ++ [gi (idsOf L) (i : Int)]) with
        | some t =>
          rw [hc9] at hr9
          obtain ⟨ad, n9, c9, f9, rfl, hs9, hf9⟩ := hr9
          repeat refine zz ?_
          refine WL_pure rfl rfl (o_neqNil rfl rfl) ?_
          repeat refine zz ?_
          exact ret1 rfl rfl ⟨hka.keep hS, by rw [hre, hdr, chs_hit hc9]; exact ⟨ad, n9, c9, f9, rfl, hs9, hf9⟩⟩
        | none =>
          rw [hc9] at hr9
          obtain rfl : v9 = _ := hr9
          repeat refine zz ?_
          refine WL_pure rfl rfl (o_neqNil rfl rfl) ?_
          repeat refine zz ?_
          exact ⟨i + 1, ⟨rfl, rfl, rfl, rfl, rfl, rfl, rfl, rfl, trivial⟩, ⟨hka.keep hS, by omega, by rw [hre, hdr, chs_miss hc9]⟩, by omega⟩
    · simp at hc
      obtain rfl : i = nI := by omega
      repeat refine zz ?_
      exact ret1 rfl rfl ⟨hka, by rw [hre, List.drop_of_length_le (by omega)]; rfl⟩

set_option maxHeartbeats 4000000 in
theorem impl_SmallestSet_ok {w : World} {v : Value} {L : List Itm} {fp : List Nat} (hL : Sl itemR w v L fp) (p q : Int) :
    Run Try.prog 15 [v, .int .i64 p, .int .i64 q] w (fun r w' => Keep w w' ∧ ∃ u f, r = .tuple #[u, .bool (smallest L p q).isSome] ∧ Sl intR w' u ((smallest L p q).getD []) f ∧ Fresh w.heap.size w' f) := by
  obtain ⟨A, n, c, rfl, hnx⟩ := hL.split
  have hg : smOk L p q = (areItems L && decide (L.length ≤ 8) && inR q 1 100 && inR p 0 q) := by unfold smOk; rfl
  have hno : smOk L p q = false → smallest L p q = none := fun h => by rw [smallest, if_neg (by simp [h])]
  refine Run_intro Try.func15 (by unfold CallOk; kernel_rfl) rfl Try.ntmps15 (Nat.le_of_ble_eq_true rfl) ?_
  simp only [penv, Nat.reduceAdd, Nat.zero_add]
  repeat refine zz ?_
  refine o_box rfl rfl rfl ?_
  intro bl w1 hal1
  have hbl : Blk w1 bl _ [.slice A n c] := hal1.blk
  have hk := hal1.kp
  replace hL := hL.keep hal1.kp
  repeat refine zz ?_
  refine o_box rfl rfl rfl ?_
  intro bn w2 hal2
  have hbn : Blk w2 bn _ [.int .i64 p] := hal2.blk
  replace hk := hk.keep hal2.kp
  replace hL := hL.keep hal2.kp
  replace hbl := hbl.keep hal2.kp
  repeat refine zz ?_
  refine o_box rfl rfl rfl ?_
  intro bd w3 hal3
  have hbd : Blk w3 bd _ [.int .i64 q] := hal3.blk
  replace hk := hk.keep hal3.kp
  replace hL := hL.keep hal3.kp
  replace hbl := hbl.keep hal3.kp
  replace hbn := hbn.keep hal3.kp
  have cl := hbl.cell (i := 0) (v := .slice A n c) rfl
  have cn := hbn.cell (i := 0) (v := .int .i64 p) rfl
  have cd := hbd.cell (i := 0) (v := .int .i64 q) rfl
  repeat refine zz ?_
  refine o_call rfl rfl rfl (impl_AreItems_ok hL) ?_
  rintro _ w4 ⟨rfl, k4⟩
  replace hk := hk.keep k4
  replace hL := hL.keep k4
  replace hbl := hbl.keep k4
  replace hbn := hbn.keep k4
  replace hbd := hbd.keep k4
  replace cl := cl.keep k4
  replace cn := cn.keep k4
  replace cd := cd.keep k4
  repeat refine zz ?_
  refine WL_part rfl rfl (fun h1 => ?_) (fun h1 => ?_)
  · simp at h1
    have hnone := hno (by rw [hg, h1]; rfl)
    repeat refine zz ?_
    repeat refine zz ?_
    refine o_buildSlice rfl rfl rfl rfl rfl (by intro p hp; cases hp) (by omega) ?_
    intro bz wz halz
    repeat refine zz ?_
    have hsz : Sl intR wz (.slice (some ⟨bz, 0, none⟩) 0 0) [] [bz] := Sl.ofInts (xs := []) halz.blk (fun i hi => by simp at hi) rfl (Nat.le_refl _) (by omega)
    exact ret2 rfl rfl rfl ⟨hk.keep halz.kp, _, [bz], by rw [hnone]; rfl, by rw [hnone]; exact hsz, Fresh.one halz.blk (by have := halz.b_eq; have := hk.size_le; omega)⟩
  simp at h1
  repeat refine zz ?_
  refine WL_part rfl rfl (fun h2 => ?_) (fun h2 => ?_)
  · simp at h2
    have hnone := hno (by rw [hg]; simp; intros; omega)
    repeat refine zz ?_
    repeat refine zz ?_
    refine o_buildSlice rfl rfl rfl rfl rfl (by intro p hp; cases hp) (by omega) ?_
    intro bz wz halz
    repeat refine zz ?_
    have hsz : Sl intR wz (.slice (some ⟨bz, 0, none⟩) 0 0) [] [bz] := Sl.ofInts (xs := []) halz.blk (fun i hi => by simp at hi) rfl (Nat.le_refl _) (by omega)
    exact ret2 rfl rfl rfl ⟨hk.keep halz.kp, _, [bz], by rw [hnone]; rfl, by rw [hnone]; exact hsz, Fresh.one halz.blk (by have := halz.b_eq; have := hk.size_le; omega)⟩
  simp at h2
  repeat refine zz ?_
  refine o_call rfl rfl rfl (within_ok q 1 100 _) ?_
  rintro _ _ ⟨rfl, rfl⟩
  repeat refine zz ?_
  refine WL_part rfl rfl (fun h3 => ?_) (fun h3 => ?_)
  · simp at h3
    have hnone := hno (by rw [hg, h3]; simp)
    repeat refine zz ?_
    repeat refine zz ?_
    refine o_buildSlice rfl rfl rfl rfl rfl (by intro p hp; cases hp) (by omega) ?_
    intro bz wz halz
    repeat refine zz ?_
    have hsz : Sl intR wz (.slice (some ⟨bz, 0, none⟩) 0 0) [] [bz] := Sl.ofInts (xs := []) halz.blk (fun i hi => by simp at hi) rfl (Nat.le_refl _) (by omega)
    exact ret2 rfl rfl rfl ⟨hk.keep halz.kp, _, [bz], by rw [hnone]; rfl, by rw [hnone]; exact hsz, Fresh.one halz.blk (by have := halz.b_eq; have := hk.size_le; omega)⟩
  simp at h3
  repeat refine zz ?_
  refine o_call rfl rfl rfl (within_ok p 0 q _) ?_
  rintro _ _ ⟨rfl, rfl⟩
  repeat refine zz ?_
  refine W_cond rfl (fun h4 => ?_) (fun h4 => ?_)
  · simp at h4
    have hnone := hno (by rw [hg, h4]; simp)
    repeat refine zz ?_
    refine o_buildSlice rfl rfl rfl rfl rfl (by intro p hp; cases hp) (by omega) ?_
    intro bz wz halz
    repeat refine zz ?_
    have hsz : Sl intR wz (.slice (some ⟨bz, 0, none⟩) 0 0) [] [bz] := Sl.ofInts (xs := []) halz.blk (fun i hi => by simp at hi) rfl (Nat.le_refl _) (by omega)
    exact ret2 rfl rfl rfl ⟨hk.keep halz.kp, _, [bz], by rw [hnone]; rfl, by rw [hnone]; exact hsz, Fresh.one halz.blk (by have := halz.b_eq; have := hk.size_le; omega)⟩
  simp at h4
  have hgt : smOk L p q = true := by rw [hg, h1, h3, h4]; simp; omega
  obtain ⟨_, hl8, hq, hp⟩ := smOk_parts hgt
  have hil := idsOf_len L
  repeat refine zz ?_
  refine o_call rfl rfl rfl (impl_IdsOf_ok hL (by omega)) ?_
  rintro vi w5 ⟨k5, fI, hI, hfI⟩
  replace hk := hk.keep k5
  replace hL := hL.keep k5
  replace hbl := hbl.keep k5
  replace hbn := hbn.keep k5
  replace hbd := hbd.keep k5
  replace cl := cl.keep k5
  have hId := hI.dom
  have hLd := hL.dom
  have zl := hbl.lt
  have zn := hbn.lt
  have zd := hbd.lt
  have hi1 := hI.oneCell
  repeat refine zz ?_
  refine o_alloc rfl rfl ?_
  intro ba w6 hal6
  have hba0 := hal6.blk
  have e6 := hal6.b_eq
  have z6 := hal6.size
  replace hk := hk.keep hal6.kp
  replace hL := hL.keep hal6.kp
  replace hbl := hbl.keep hal6.kp
  replace hbn := hbn.keep hal6.kp
  replace hbd := hbd.keep hal6.kp
  replace cl := cl.keep hal6.kp
  replace hI := hI.keep hal6.kp
  have hkz := hk.size_le
  repeat refine zz ?_
  refine o_store1 (b := ba) (off := 0) rfl rfl rfl rfl hi1 hba0 (by simp) ?_
  intro w7 hu7
  have hba : Blk w7 ba _ [vi] := hu7.blk
  have z7 := hu7.size
  replace hk := hk.upd hu7 (by have := hal1.b_eq; have := hal1.size; omega)
  replace hL := hL.upd hu7 (fun hm => by have := hLd _ hm; omega)
  replace hI := hI.upd hu7 (fun hm => by have := hId _ hm; omega)
  replace hbl := hbl.upd hu7 (by omega)
  replace hbn := hbn.upd hu7 (by omega)
  replace hbd := hbd.upd hu7 (by omega)
  repeat refine zz ?_
  refine o_alloc rfl rfl ?_
  intro bc w8 hal8
  have hbc0 := hal8.blk
  have e8 := hal8.b_eq
  have z8 := hal8.size
  replace hk := hk.keep hal8.kp
  replace hL := hL.keep hal8.kp
  replace hbl := hbl.keep hal8.kp
  replace hbn := hbn.keep hal8.kp
  replace hbd := hbd.keep hal8.kp
  replace hI := hI.keep hal8.kp
  replace hba := hba.keep hal8.kp
  repeat refine zz ?_
  refine WL_pure rfl rfl (o_makeFunc rfl rfl) ?_
  refine o_store1 (b := bc) (off := 0) rfl rfl rfl rfl rfl hbc0 (by simp) ?_
  intro w9 hu9
  have hbc : Blk w9 bc _ [_] := hu9.blk
  have z9 := hu9.size
  replace hk := hk.upd hu9 (by have := hal1.b_eq; have := hal1.size; omega)
  replace hL := hL.upd hu9 (fun hm => by have := hLd _ hm; omega)
  replace hI := hI.upd hu9 (fun hm => by have := hId _ hm; omega)
  replace hbl := hbl.upd hu9 (by omega)
  replace hbn := hbn.upd hu9 (by omega)
  replace hbd := hbd.upd hu9 (by omega)
  replace hba := hba.upd hu9 (by omega)
  obtain ⟨AI, nI, cI, rfl, hnI⟩ := hI.split
  have hsm := smallest_f hgt
  repeat refine zz ?_
  refine W_loop (S := Nat) (fun s => [(8, .pointer (some ⟨ba, 0, none⟩)), (9, .pointer (some ⟨bc, 0, none⟩)), (10, .int .i64 (s : Int))]) (fun s w' => Keep w9 w' ∧ s ≤ nI + 1 ∧ smallest L p q = smallF (okSet L p q) (idsOf L) (nI + 1 - s) s) (fun s => nI + 1 - s) 0 ⟨rfl, rfl, rfl, trivial⟩ ⟨Keep.refl _, by omega, by rw [hsm, hnI, hil]; rfl⟩ ?_
  rintro s wa ⟨hka, hs, hse⟩
  replace hk := hk.keep hka
  replace hL := hL.keep hka
  replace hI := hI.keep hka
  replace hbl := hbl.keep hka
  replace hbn := hbn.keep hka
  replace hbd := hbd.keep hka
  replace hba := hba.keep hka
  replace hbc := hbc.keep hka
  have ca := hba.cell (i := 0) (v := .slice AI nI cI) rfl
  have cc := hbc.cell (i := 0) (v := _) rfl
  repeat refine zz ?_
  refine W_cond rfl (fun hc => ?_) (fun hc => ?_)
  · have hsl : s ≤ nI := by simp at hc; omega
    repeat refine zz ?_
    refine o_buildSlice rfl rfl rfl rfl rfl (by intro p hp; cases hp) (by omega) ?_
    intro be wb halb
    have hse0 : Sl intR wb (.slice (some ⟨be, 0, none⟩) 0 0) [] [be] := Sl.ofInts (xs := []) halb.blk (fun i hi => by simp at hi) rfl (Nat.le_refl _) (by omega)
    have hfe : Fresh w.heap.size wb [be] := Fresh.one halb.blk (by have := halb.b_eq; have := hk.size_le; omega)
    have kb := halb.kp
    replace hk := hk.keep kb
    have zk := hk.size_le
    have hch := choose_ok (p := p) (q := q) (by omega) hq hl8 (B := w.heap.size) s 0 (Nat.zero_le _) hse0 hfe zk (by simp) (hbl.keep kb) (hL.keep kb) (hbd.keep kb) (hbn.keep kb) (hba.keep kb) (hI.keep kb) (hbc.keep kb)
    have e2 : (([] : List Int).length + s : Nat) = s := by simp
    rw [e2] at hch
    repeat refine zz ?_
    refine o_callv rfl rfl rfl rfl hch ?_
    rintro v10 w10 ⟨k10, hr⟩
    obtain ⟨g, hg1⟩ : ∃ g, nI + 1 - s = g + 1 := ⟨nI - s, by omega⟩
    rw [hg1] at hse
    rw [List.drop_zero] at hr
    cases hcs : chs (okSet L p q) (idsOf L) s [] with
    | some t =>
      rw [hcs] at hr
      obtain ⟨ad, n9, c9, f9, rfl, hs9, hf9⟩ := hr
      rw [smallF_hit hcs] at hse
      repeat refine zz ?_
      refine WL_pure rfl rfl (o_neqNil rfl rfl) ?_
      repeat refine zz ?_
      exact ret2 rfl rfl rfl ⟨hk.keep k10, _, f9, by rw [hse]; rfl, by rw [hse]; exact hs9, hf9⟩
    | none =>
      rw [hcs] at hr
      obtain rfl : v10 = _ := hr
      rw [smallF_miss hcs] at hse
      repeat refine zz ?_
      refine WL_pure rfl rfl (o_neqNil rfl rfl) ?_
      repeat refine zz ?_
      exact ⟨s + 1, ⟨rfl, rfl, rfl, trivial⟩, ⟨(hka.keep kb).keep k10, by omega, by rw [hse, show nI + 1 - (s + 1) = g by omega]⟩, by omega⟩
  · simp at hc
    obtain rfl : s = nI + 1 := by omega
    have hnone : smallest L p q = none := by rw [hse, Nat.sub_self]; rfl
    repeat refine zz ?_
    refine o_buildSlice rfl rfl rfl rfl rfl (by intro p hp; cases hp) (by omega) ?_
    intro bz wz halz
    repeat refine zz ?_
    have hsz : Sl intR wz (.slice (some ⟨bz, 0, none⟩) 0 0) [] [bz] := Sl.ofInts (xs := []) halz.blk (fun i hi => by simp at hi) rfl (Nat.le_refl _) (by omega)
    exact ret2 rfl rfl rfl ⟨hk.keep halz.kp, _, [bz], by rw [hnone]; rfl, by rw [hnone]; exact hsz, Fresh.one halz.blk (by have := halz.b_eq; have := hk.size_le; omega)⟩
end Go.E

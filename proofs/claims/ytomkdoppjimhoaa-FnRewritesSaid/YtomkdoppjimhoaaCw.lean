/-
  Contracts: copies of wishes. Conditions: as stated.
-/
import Derived.Test.YtomkdoppjimhoaaGk
import Derived.Test.YtomkdoppjimhoaaTys
import Derived.Test.YtomkdoppjimhoaaWo
import Derived.Test.YtomkdoppjimhoaaAg
set_option linter.unusedVariables false
set_option linter.unusedSimpArgs false
namespace Go.E
open Go Go.RowKit Go.Proofs
theorem Rows.nofpI {w : World} : ∀ {xs : List Int} {cs : List Value} {fp : List Nat}, Rows intR w xs cs fp → fp = []
  | [], _, _, h => h.2
  | x :: xs, _, _, h => by
    obtain ⟨c1, c2, f1, f2, rfl, rfl, h1, h2⟩ := h
    rw [h1.2, Rows.nofpI h2]; rfl
theorem Rows.nofpP {w : World} : ∀ {xs : List (Int × Int)} {cs : List Value} {fp : List Nat}, Rows pairR w xs cs fp → fp = []
  | [], _, _, h => h.2
  | x :: xs, _, _, h => by
    obtain ⟨c1, c2, f1, f2, rfl, rfl, h1, h2⟩ := h
    rw [h1.2, Rows.nofpP h2]; rfl
theorem Src.nofpI {w : World} {A : Option Addr} {xs : List Int} {fp : List Nat} (h : Src intR w A xs fp) : fp = [] := by
  obtain ⟨nw, hr, _⟩ := h
  exact Rows.nofpI hr
theorem Src.nofpP {w : World} {A : Option Addr} {xs : List (Int × Int)} {fp : List Nat} (h : Src pairR w A xs fp) : fp = [] := by
  obtain ⟨nw, hr, _⟩ := h
  exact Rows.nofpP hr
attribute [local irreducible] W WL WD WE thenE inE retQ PureOp Keep Cell Cells Blk Sl Rows Own Src Fresh

theorem copyIntsO_ok {w : World} {v : Value} {xs : List Int} {fp : List Nat} (hx : Sl intR w v xs fp) (hn : xs.length ≤ 1048576) :
    Run Try.prog 94 [v] w (fun r w' => Keep w w' ∧ OwnF intR w' w.heap.size 3 r xs []) := by
  obtain ⟨A, n, c, rfl, hnx⟩ := hx.split
  refine Run_intro Try.func94 (by unfold CallOk; kernel_rfl) rfl Try.ntmps94 (Nat.le_of_ble_eq_true rfl) ?_
  simp only [penv, Nat.reduceAdd, Nat.zero_add]
  repeat refine zz ?_
  refine o_buildSlice rfl rfl rfl rfl rfl (by intro p hp; cases hp) (by omega) ?_
  intro b0 w1 hal
  have hk := hal.kp
  have ho1 : OwnF intR w1 w.heap.size 3 (.slice (some ⟨b0, 0, none⟩) 0 0) [] [] := OwnF.made hal.blk (by have := hal.b_eq; omega)
  replace hx := hx.keep hk
  obtain ⟨g, hsrc, _⟩ := hx.src
  obtain rfl := hsrc.nofpI
  have hkz := hal.size
  repeat refine zz ?_
  refine o_appendF (R := intR) (M := w1.heap.size) (gi := []) rfl rfl rfl rfl rfl (by decide) ho1 hsrc hnx (Fresh.nil _ _) (fun b hb => by simp at hb) (fun b hb => (ho1.lt hb).2) (fun b hb => by simp at hb) (by simp only [List.length_nil]; omega) (by simp only [List.length_nil]; omega) (by omega) ?_
  intro v7 w7 ho7 hb7 hg7
  have hk7 : Keep w w7 := hk.grown hg7 (fun b hb => (ho1.lt hb).1)
  repeat refine zz ?_
  exact ret1 rfl rfl ⟨hk7, ho7⟩

set_option maxHeartbeats 1000000 in
theorem copyWish_ok {w : World} {v u : Value} {x : Wsh} {f1 f2 : List Nat} (hl : Sl intR w v x.list f1) (hp : Sl pairR w u x.pairs f2) (hn : totW x ≤ 1048576) :
    Run Try.prog 106 [.agg #[.int .i64 x.kind, .int .i64 x.field, .int .i64 x.value, v, u]] w (fun r w' => Keep w w' ∧ ∃ v' u' f, r = .agg #[.int .i64 x.kind, .int .i64 x.field, .int .i64 x.value, v', u'] ∧ wishR.rep w' x [.int .i64 x.kind, .int .i64 x.field, .int .i64 x.value, v', u'] f ∧ Fresh w.heap.size w' f) := by
  have hln : x.list.length ≤ 1048576 ∧ x.pairs.length ≤ 1048576 := by simp only [totW] at hn; omega
  have dl := hl.dom
  have dp := hp.dom
  refine Run_intro Try.func106 (by unfold CallOk; kernel_rfl) rfl Try.ntmps106 (Nat.le_of_ble_eq_true rfl) ?_
  simp only [penv, Nat.reduceAdd, Nat.zero_add]
  repeat refine zz ?_
  refine o_boxS rfl rfl rfl ?_
  intro b1 w1 hal1
  have hb1 : Blk w1 b1 _ [.int .i64 x.kind, .int .i64 x.field, .int .i64 x.value, v, u] := hal1.blk
  have hk := hal1.kp
  have hs1 := hal1.b_eq
  have hz1 := hal1.size
  replace hl := hl.keep hal1.kp
  replace hp := hp.keep hal1.kp
  repeat refine zz ?_
  refine o_alloc rfl rfl ?_
  intro b2 w2 hal2
  have hb2 := hal2.blk
  have hs2 := hal2.b_eq
  have hz2 := hal2.size
  replace hk := hk.keep hal2.kp
  replace hb1 := hb1.keep hal2.kp
  replace hl := hl.keep hal2.kp
  replace hp := hp.keep hal2.kp
  repeat refine zz ?_
  refine o_call rfl rfl rfl (copyIntsO_ok hl hln.1) ?_
  rintro v7 w7 ⟨hk7, ho7⟩
  have z7 := hk7.size_le
  replace hk := hk.keep hk7
  replace hb1 := hb1.keep hk7
  replace hb2 := hb2.keep hk7
  replace hp := hp.keep hk7
  obtain ⟨g7, hs7, _⟩ := ho7.sl (by decide)
  have ov := hs7.oneCell
  have hown7 := fun c hc => ho7.lt (b := c) hc
  repeat refine zz ?_
  refine o_store1 (b := b1) (off := 3) rfl rfl rfl rfl ov hb1 (by simp) ?_
  intro w8 hu8
  replace hb1 : Blk w8 b1 _ [.int .i64 x.kind, .int .i64 x.field, .int .i64 x.value, v7, u] := hu8.blk
  replace hk := hk.upd hu8 (by omega)
  replace hb2 := hb2.upd hu8 (by omega)
  replace hp := hp.upd hu8 (fun hm => by have := dp _ hm; omega)
  replace ho7 := ho7.upd hu8 (fun e => by have := hown7 _ e; omega) (by simp)
  have z8 := hu8.size
  repeat refine zz ?_
  refine o_buildSlice rfl rfl rfl rfl rfl (by intro p hp; cases hp) (by omega) ?_
  intro bO wO halO
  have hkO := halO.kp
  have zO := halO.b_eq
  have sO := halO.size
  have ho : OwnF pairR wO w8.heap.size 120 (.slice (some ⟨bO, 0, none⟩) 0 0) [] [] := OwnF.made halO.blk (by omega)
  replace hk := hk.keep hkO
  replace hb1 := hb1.keep hkO
  replace hb2 := hb2.keep hkO
  replace hp := hp.keep hkO
  replace ho7 := ho7.keep hkO
  obtain ⟨A, n, c, rfl, hnx⟩ := hp.split
  obtain ⟨g, hsrc, _⟩ := hp.src
  obtain rfl := hsrc.nofpP
  repeat refine zz ?_
  refine o_appendF (R := pairR) (M := wO.heap.size) (gi := []) rfl rfl rfl rfl rfl (by decide) ho hsrc hnx (Fresh.nil _ _) (fun b hb => by simp at hb) (fun b hb => (ho.lt hb).2) (fun b hb => by simp at hb) (by simp only [List.length_nil]; omega) (by simp only [List.length_nil]; omega) (by omega) ?_
  intro v9 w9 ho9 hb9 hg9
  rw [List.nil_append] at ho9
  have hrow := fun c hc => (ho.lt (b := c) hc).1
  replace hk := hk.grown hg9 (fun c hc => by have := hrow c hc; omega)
  replace hb1 := hb1.grown hg9 (fun e => by have := hrow _ e.symm; omega)
  replace hb2 := hb2.grown hg9 (fun e => by have := hrow _ e.symm; omega)
  replace ho7 := ho7.grown hg9 (fun c hc => ⟨fun e => by have := hrow c hc; have := hown7 _ e; omega, by simp⟩)
  have hown9 := fun c hc => ho9.lt (b := c) hc
  obtain ⟨g9, hs9, _⟩ := ho9.sl (by decide)
  have ou := hs9.oneCell
  repeat refine zz ?_
  refine o_store1 (b := b1) (off := 4) rfl rfl rfl rfl ou hb1 (by simp) ?_
  intro w10 hu10
  replace hb1 : Blk w10 b1 _ [.int .i64 x.kind, .int .i64 x.field, .int .i64 x.value, v7, v9] := hu10.blk
  replace hk := hk.upd hu10 (by omega)
  replace hb2 := hb2.upd hu10 (by omega)
  replace ho7 := ho7.upd hu10 (fun e => by have := hown7 _ e; omega) (by simp)
  replace ho9 := ho9.upd hu10 (fun e => by have := hown9 _ e; omega) (by simp)
  have c1 := hb1.cells
  repeat refine zz ?_
  refine o_storeS (b := b2) (off := 0) rfl rfl rfl rfl (by repeat (first | exact ones_nil | refine ones_cons (by first | rfl | assumption) ?_)) rfl hb2 (by simp) ?_
  intro w11 hu11
  have hb11 : Blk w11 b2 _ [.int .i64 x.kind, .int .i64 x.field, .int .i64 x.value, v7, v9] := hu11.blk
  replace hk := hk.upd hu11 (by omega)
  replace ho7 := ho7.upd hu11 (fun e => by have := hown7 _ e; omega) (by simp)
  replace ho9 := ho9.upd hu11 (fun e => by have := hown9 _ e; omega) (by simp)
  obtain ⟨f, hrep, hfr⟩ := wish_own (base := w.heap.size) (ho7.low (by omega)) (ho9.low (by omega)) (fun c h1 h2 => by have := hown7 c h1; have := hown9 c h2; omega)
  repeat refine zz ?_
  exact retc rfl rfl hb11.cells rfl ⟨hk, v7, v9, f, rfl, hrep, hfr⟩

set_option maxHeartbeats 2000000 in
theorem l5Wish_ok {w : World} {v u : Value} {x : Wsh} {f1 f2 : List Nat} (hl : Sl intR w v x.list f1) (hp : Sl pairR w u x.pairs f2) (hn : totW x ≤ 1048576) :
    Run Try.prog 104 [.agg #[.int .i64 x.kind, .int .i64 x.field, .int .i64 x.value, v, u]] w (fun r w' => Keep w w' ∧ ∃ v' u' f, r = .agg #[.int .i64 x.kind, .int .i64 x.field, .int .i64 x.value, v', u'] ∧ wishR.rep w' x [.int .i64 x.kind, .int .i64 x.field, .int .i64 x.value, v', u'] f ∧ Fresh w.heap.size w' f) := by
  have hln : x.list.length ≤ 1048576 ∧ x.pairs.length ≤ 1048576 := by simp only [totW] at hn; omega
  obtain ⟨A, n, c, rfl, hnl⟩ := hl.split
  obtain ⟨B, m, d, rfl, hnp⟩ := hp.split
  refine Run_intro Try.func104 (by unfold CallOk; kernel_rfl) rfl Try.ntmps104 (Nat.le_of_ble_eq_true rfl) ?_
  simp only [penv, Nat.reduceAdd, Nat.zero_add]
  repeat refine zz ?_
  refine o_boxS rfl rfl rfl ?_
  intro b1 w1 hal1
  have hb1 : Blk w1 b1 _ [.int .i64 x.kind, .int .i64 x.field, .int .i64 x.value, .slice A n c, .slice B m d] := hal1.blk
  have hk := hal1.kp
  have hs1 := hal1.b_eq
  have hz1 := hal1.size
  replace hl := hl.keep hal1.kp
  replace hp := hp.keep hal1.kp
  repeat refine zz ?_
  refine o_alloc rfl rfl ?_
  intro b2 w2 hal2
  have hb2 := hal2.blk
  have hs2 := hal2.b_eq
  have hz2 := hal2.size
  replace hk := hk.keep hal2.kp
  replace hb1 := hb1.keep hal2.kp
  replace hl := hl.keep hal2.kp
  replace hp := hp.keep hal2.kp
  clear hal1 hal2
  have hl2 := hl
  have hp2 := hp
  repeat refine zz ?_
  refine W_draw (fun w' => Blk w' b1 72 [.int .i64 x.kind, .int .i64 x.field, .int .i64 x.value, .slice A n c, .slice B m d]) (by kernel_rfl) ?_
  have hS : Keep w2 (World.drew w2) := Keep.drew w2
  have sS0 := hS.size_le
  have hSb := hb1.keep hS
  refine WD_take 0 rfl (by kernel_rfl) (by kernel_rfl) (by kernel_rfl) (by repeat (first | exact np_ret | refine np_then ?_ | refine np_in ?_)) rfl rfl (fun w' _ => o_fieldAddr rfl rfl) hSb ?_
  refine WD_take 1 rfl (by kernel_rfl) (by kernel_rfl) (by kernel_rfl) (by repeat (first | exact np_ret | refine np_then ?_ | refine np_in ?_)) rfl rfl (fun w' hw' => o_load rfl (Blk.fcell hw' rfl)) hSb ?_
  refine WD_take 2 rfl (by kernel_rfl) (by kernel_rfl) (by kernel_rfl) (by repeat (first | exact np_ret | refine np_then ?_ | refine np_in ?_)) rfl rfl (fun w' _ => o_fieldAddr rfl rfl) hSb ?_
  refine WD_take 3 rfl (by kernel_rfl) (by kernel_rfl) (by kernel_rfl) (by repeat (first | exact np_ret | refine np_then ?_ | refine np_in ?_)) rfl rfl (fun w' hw' => o_load rfl (Blk.fcell hw' rfl)) hSb ?_
  refine WD_take 4 rfl (by kernel_rfl) (by kernel_rfl) (by kernel_rfl) (by repeat (first | exact np_ret | refine np_then ?_ | refine np_in ?_)) rfl rfl (fun w' _ => o_fieldAddr rfl rfl) hSb ?_
  refine WD_take 5 rfl (by kernel_rfl) (by kernel_rfl) (by kernel_rfl) (by repeat (first | exact np_ret | refine np_then ?_ | refine np_in ?_)) rfl rfl (fun w' hw' => o_load rfl (Blk.fcell hw' rfl)) hSb ?_
  refine WD_take 7 rfl (by kernel_rfl) (by kernel_rfl) (by kernel_rfl) (by repeat (first | exact np_ret | refine np_then ?_ | refine np_in ?_)) rfl rfl (fun w' _ => o_fieldAddr rfl rfl) hSb ?_
  refine WD_take 8 rfl (by kernel_rfl) (by kernel_rfl) (by kernel_rfl) (by repeat (first | exact np_ret | refine np_then ?_ | refine np_in ?_)) rfl rfl (fun w' hw' => o_load rfl (Blk.fcell hw' rfl)) hSb ?_
  refine WD_take 11 rfl (by kernel_rfl) (by kernel_rfl) (by kernel_rfl) (by repeat (first | exact np_ret | refine np_then ?_ | refine np_in ?_)) rfl rfl (fun w' _ => o_fieldAddr rfl rfl) hSb ?_
  refine WD_take 12 rfl (by kernel_rfl) (by kernel_rfl) (by kernel_rfl) (by repeat (first | exact np_ret | refine np_then ?_ | refine np_in ?_)) rfl rfl (fun w' hw' => o_load rfl (Blk.fcell hw' rfl)) hSb ?_
  refine WD_two 6 10  (by kernel_rfl) rfl rfl ?_ ?_
  · refine o_buildSlice rfl rfl rfl rfl rfl (by intro p hp; cases hp) (by omega) ?_
    intro b6 w6 hal6
    have hoa : OwnF intR w6 w2.heap.size 3 (.slice (some ⟨b6, 0, none⟩) 0 0) [] [] := OwnF.made hal6.blk (by have := hal6.b_eq; have := hS.size_le; omega)
    have e6 := hal6.b_eq
    have z6 := hal6.size
    replace hS := hS.keep hal6.kp
    have s6 := hS.size_le
    try replace hob := hob.keep hal6.kp
    have hSb := hb1.keep hS
    refine WL_end ⟨hSb, ?_⟩
    refine WD_two 9 10  (by kernel_rfl) rfl rfl ?_ ?_
    · obtain ⟨gA, hsrcA, _⟩ := (hl2.keep hS).src
      obtain rfl := hsrcA.nofpI
      refine o_appendG (R := intR) (M := _) (gi := []) rfl rfl rfl rfl rfl (by decide) hoa hsrcA hnl (Fresh.nil _ _) (fun b hb => by simp at hb) (fun b hb => (hoa.lt hb).2) (fun b hb => by simp at hb) (by simp only [List.length_nil]; omega) (by simp only [List.length_nil]; omega) (by omega) ?_
      intro v12 w12 ho12 hb12 hg12 hv12
      rw [List.nil_append] at ho12
      have hr12 := fun c hc => (hoa.lt (b := c) hc).1
      have hx12 := fun c hc => (ho12.lt (b := c) hc)
      replace hS := hS.grown hg12 hr12
      have s12 := hS.size_le
      try replace hob := hob.grown hg12 (fun c hc => ⟨fun e => by simp [Value.ownBlock] at hc e; omega, by simp⟩)
      obtain ⟨gs12, hs12, _⟩ := ho12.sl (by decide)
      have ov := hs12.oneCell
      clear hs12
      have hSb := hb1.keep hS
      refine WL_end ⟨hSb, ?_⟩
      refine WD_one 10 (by kernel_rfl) rfl ?_
      refine o_buildSlice rfl rfl rfl rfl rfl (by intro p hp; cases hp) (by omega) ?_
      intro b10 w10 hal10
      have hob : OwnF pairR w10 w2.heap.size 120 (.slice (some ⟨b10, 0, none⟩) 0 0) [] [] := OwnF.made hal10.blk (by have := hal10.b_eq; have := hS.size_le; omega)
      have e10 := hal10.b_eq
      have z10 := hal10.size
      replace hS := hS.keep hal10.kp
      have s10 := hS.size_le
      try replace hoa := hoa.keep hal10.kp
      try replace ho12 := ho12.keep hal10.kp
      have hSb := hb1.keep hS
      refine WL_end ⟨hSb, ?_⟩
      have hap : ∀ c, v12.ownBlock = some c → c ≠ b10 := fun c hc => by have := hx12 c hc; omega
      obtain ⟨gB, hsrcB, _⟩ := (hp2.keep hS).src
      obtain rfl := hsrcB.nofpP
      refine WD_one 13 (by kernel_rfl) rfl ?_
      refine o_appendG (R := pairR) (M := _) (gi := []) rfl rfl rfl rfl rfl (by decide) hob hsrcB hnp (Fresh.nil _ _) (fun b hb => by simp at hb) (fun b hb => (hob.lt hb).2) (fun b hb => by simp at hb) (by simp only [List.length_nil]; omega) (by simp only [List.length_nil]; omega) (by omega) ?_
      intro v13 w13 ho13 hb13 hg13 hv13
      rw [List.nil_append] at ho13
      have hr13 := fun c hc => (hob.lt (b := c) hc).1
      have hl12 := fun c hc => (ho12.lt (b := c) hc).2
      replace hS := hS.grown hg13 hr13
      have hdj : ∀ c, v12.ownBlock = some c → v13.ownBlock ≠ some c := fun c h1 h2 => by
        have h3 := hap c h1
        have h4 := hl12 c h1
        rcases hv13 with h | h
        · rw [h2] at h; simp [Value.ownBlock] at h; omega
        · rw [h2] at h; simp at h; omega
      replace ho12 := ho12.grown hg13 (fun c hc => ⟨fun e => by have := hap c e; simp [Value.ownBlock] at hc; omega, by simp⟩)
      obtain ⟨gs13, hs13, _⟩ := ho13.sl (by decide)
      have ou := hs13.oneCell
      obtain ⟨A12, n12, c12, rfl, _, _⟩ := ho12.split
      obtain ⟨A13, n13, c13, rfl, _, _⟩ := ho13.split
      have hSb := hb1.keep hS
      refine WL_end ⟨hSb, ?_⟩
      refine WD_take 14 rfl (by kernel_rfl) (by kernel_rfl) (by kernel_rfl) (by repeat (first | exact np_ret | refine np_then ?_ | refine np_in ?_)) rfl rfl (fun w' _ => o_buildT (cs := [.int .i64 x.kind, .int .i64 x.field, .int .i64 x.value, .slice A12 n12 c12, .slice A13 n13 c13]) rfl rfl) hSb ?_
      refine WD_one 15 (by kernel_rfl) rfl ?_
      have hbS := hb2.keep hS
      have hx12' := fun c hc => (ho12.lt (b := c) hc)
      have hx13' := fun c hc => (ho13.lt (b := c) hc)
      refine o_storeS (b := b2) (off := 0) rfl rfl rfl rfl (by repeat (first | exact ones_nil | refine ones_cons (by first | rfl | assumption) ?_)) rfl hbS (by simp) ?_
      intro wZ huZ
      have hbZ : Blk wZ b2 _ [.int .i64 x.kind, .int .i64 x.field, .int .i64 x.value, .slice A12 n12 c12, .slice A13 n13 c13] := huZ.blk
      have hkZ := (hk.keep hS).upd huZ (by omega)
      replace ho12 := ho12.upd huZ (fun e => by have := hx12' _ e; omega) (by simp)
      replace ho13 := ho13.upd huZ (fun e => by have := hx13' _ e; omega) (by simp)
      obtain ⟨f, hrep, hfr⟩ := wish_own (base := w.heap.size) (ho12.low (by omega)) (ho13.low (by omega)) hdj
      refine WL_end ⟨(hb1.keep hS).upd huZ (by omega), ?_⟩
      refine WD_done (by kernel_rfl) ?_
      repeat refine zz ?_
      exact retc rfl rfl hbZ.cells rfl ⟨hkZ, _, _, f, rfl, hrep, hfr⟩
    · refine o_buildSlice rfl rfl rfl rfl rfl (by intro p hp; cases hp) (by omega) ?_
      intro b10 w10 hal10
      have hob : OwnF pairR w10 w2.heap.size 120 (.slice (some ⟨b10, 0, none⟩) 0 0) [] [] := OwnF.made hal10.blk (by have := hal10.b_eq; have := hS.size_le; omega)
      have e10 := hal10.b_eq
      have z10 := hal10.size
      replace hS := hS.keep hal10.kp
      have s10 := hS.size_le
      try replace hoa := hoa.keep hal10.kp
      try replace ho12 := ho12.keep hal10.kp
      have hSb := hb1.keep hS
      refine WL_end ⟨hSb, ?_⟩
      refine WD_one 9 (by kernel_rfl) rfl ?_
      obtain ⟨gA, hsrcA, _⟩ := (hl2.keep hS).src
      obtain rfl := hsrcA.nofpI
      refine o_appendG (R := intR) (M := _) (gi := []) rfl rfl rfl rfl rfl (by decide) hoa hsrcA hnl (Fresh.nil _ _) (fun b hb => by simp at hb) (fun b hb => (hoa.lt hb).2) (fun b hb => by simp at hb) (by simp only [List.length_nil]; omega) (by simp only [List.length_nil]; omega) (by omega) ?_
      intro v12 w12 ho12 hb12 hg12 hv12
      rw [List.nil_append] at ho12
      have hr12 := fun c hc => (hoa.lt (b := c) hc).1
      have hx12 := fun c hc => (ho12.lt (b := c) hc)
      replace hS := hS.grown hg12 hr12
      have s12 := hS.size_le
      try replace hob := hob.grown hg12 (fun c hc => ⟨fun e => by simp [Value.ownBlock] at hc e; omega, by simp⟩)
      obtain ⟨gs12, hs12, _⟩ := ho12.sl (by decide)
      have ov := hs12.oneCell
      clear hs12
      have hSb := hb1.keep hS
      refine WL_end ⟨hSb, ?_⟩
      have hap : ∀ c, v12.ownBlock = some c → c ≠ b10 := fun c hc => by
        rcases hv12 with h | h
        · rw [hc] at h; simp [Value.ownBlock] at h; omega
        · rw [hc] at h; simp at h; omega
      obtain ⟨gB, hsrcB, _⟩ := (hp2.keep hS).src
      obtain rfl := hsrcB.nofpP
      refine WD_one 13 (by kernel_rfl) rfl ?_
      refine o_appendG (R := pairR) (M := _) (gi := []) rfl rfl rfl rfl rfl (by decide) hob hsrcB hnp (Fresh.nil _ _) (fun b hb => by simp at hb) (fun b hb => (hob.lt hb).2) (fun b hb => by simp at hb) (by simp only [List.length_nil]; omega) (by simp only [List.length_nil]; omega) (by omega) ?_
      intro v13 w13 ho13 hb13 hg13 hv13
      rw [List.nil_append] at ho13
      have hr13 := fun c hc => (hob.lt (b := c) hc).1
      have hl12 := fun c hc => (ho12.lt (b := c) hc).2
      replace hS := hS.grown hg13 hr13
      have hdj : ∀ c, v12.ownBlock = some c → v13.ownBlock ≠ some c := fun c h1 h2 => by
        have h3 := hap c h1
        have h4 := hl12 c h1
        rcases hv13 with h | h
        · rw [h2] at h; simp [Value.ownBlock] at h; omega
        · rw [h2] at h; simp at h; omega
      replace ho12 := ho12.grown hg13 (fun c hc => ⟨fun e => by have := hap c e; simp [Value.ownBlock] at hc; omega, by simp⟩)
      obtain ⟨gs13, hs13, _⟩ := ho13.sl (by decide)
      have ou := hs13.oneCell
      obtain ⟨A12, n12, c12, rfl, _, _⟩ := ho12.split
      obtain ⟨A13, n13, c13, rfl, _, _⟩ := ho13.split
      have hSb := hb1.keep hS
      refine WL_end ⟨hSb, ?_⟩
      refine WD_take 14 rfl (by kernel_rfl) (by kernel_rfl) (by kernel_rfl) (by repeat (first | exact np_ret | refine np_then ?_ | refine np_in ?_)) rfl rfl (fun w' _ => o_buildT (cs := [.int .i64 x.kind, .int .i64 x.field, .int .i64 x.value, .slice A12 n12 c12, .slice A13 n13 c13]) rfl rfl) hSb ?_
      refine WD_one 15 (by kernel_rfl) rfl ?_
      have hbS := hb2.keep hS
      have hx12' := fun c hc => (ho12.lt (b := c) hc)
      have hx13' := fun c hc => (ho13.lt (b := c) hc)
      refine o_storeS (b := b2) (off := 0) rfl rfl rfl rfl (by repeat (first | exact ones_nil | refine ones_cons (by first | rfl | assumption) ?_)) rfl hbS (by simp) ?_
      intro wZ huZ
      have hbZ : Blk wZ b2 _ [.int .i64 x.kind, .int .i64 x.field, .int .i64 x.value, .slice A12 n12 c12, .slice A13 n13 c13] := huZ.blk
      have hkZ := (hk.keep hS).upd huZ (by omega)
      replace ho12 := ho12.upd huZ (fun e => by have := hx12' _ e; omega) (by simp)
      replace ho13 := ho13.upd huZ (fun e => by have := hx13' _ e; omega) (by simp)
      obtain ⟨f, hrep, hfr⟩ := wish_own (base := w.heap.size) (ho12.low (by omega)) (ho13.low (by omega)) hdj
      refine WL_end ⟨(hb1.keep hS).upd huZ (by omega), ?_⟩
      refine WD_done (by kernel_rfl) ?_
      repeat refine zz ?_
      exact retc rfl rfl hbZ.cells rfl ⟨hkZ, _, _, f, rfl, hrep, hfr⟩
  · refine o_buildSlice rfl rfl rfl rfl rfl (by intro p hp; cases hp) (by omega) ?_
    intro b10 w10 hal10
    have hob : OwnF pairR w10 w2.heap.size 120 (.slice (some ⟨b10, 0, none⟩) 0 0) [] [] := OwnF.made hal10.blk (by have := hal10.b_eq; have := hS.size_le; omega)
    have e10 := hal10.b_eq
    have z10 := hal10.size
    replace hS := hS.keep hal10.kp
    have s10 := hS.size_le
    try replace hoa := hoa.keep hal10.kp
    try replace ho12 := ho12.keep hal10.kp
    have hSb := hb1.keep hS
    refine WL_end ⟨hSb, ?_⟩
    refine WD_one 6 (by kernel_rfl) rfl ?_
    refine o_buildSlice rfl rfl rfl rfl rfl (by intro p hp; cases hp) (by omega) ?_
    intro b6 w6 hal6
    have hoa : OwnF intR w6 w2.heap.size 3 (.slice (some ⟨b6, 0, none⟩) 0 0) [] [] := OwnF.made hal6.blk (by have := hal6.b_eq; have := hS.size_le; omega)
    have e6 := hal6.b_eq
    have z6 := hal6.size
    replace hS := hS.keep hal6.kp
    have s6 := hS.size_le
    try replace hob := hob.keep hal6.kp
    have hSb := hb1.keep hS
    refine WL_end ⟨hSb, ?_⟩
    refine WD_one 9 (by kernel_rfl) rfl ?_
    obtain ⟨gA, hsrcA, _⟩ := (hl2.keep hS).src
    obtain rfl := hsrcA.nofpI
    refine o_appendG (R := intR) (M := _) (gi := []) rfl rfl rfl rfl rfl (by decide) hoa hsrcA hnl (Fresh.nil _ _) (fun b hb => by simp at hb) (fun b hb => (hoa.lt hb).2) (fun b hb => by simp at hb) (by simp only [List.length_nil]; omega) (by simp only [List.length_nil]; omega) (by omega) ?_
    intro v12 w12 ho12 hb12 hg12 hv12
    rw [List.nil_append] at ho12
    have hr12 := fun c hc => (hoa.lt (b := c) hc).1
    have hx12 := fun c hc => (ho12.lt (b := c) hc)
    replace hS := hS.grown hg12 hr12
    have s12 := hS.size_le
    try replace hob := hob.grown hg12 (fun c hc => ⟨fun e => by simp [Value.ownBlock] at hc e; omega, by simp⟩)
    obtain ⟨gs12, hs12, _⟩ := ho12.sl (by decide)
    have ov := hs12.oneCell
    clear hs12
    have hSb := hb1.keep hS
    refine WL_end ⟨hSb, ?_⟩
    have hap : ∀ c, v12.ownBlock = some c → c ≠ b10 := fun c hc => by
      rcases hv12 with h | h
      · rw [hc] at h; simp [Value.ownBlock] at h; omega
      · rw [hc] at h; simp at h; omega
    obtain ⟨gB, hsrcB, _⟩ := (hp2.keep hS).src
    obtain rfl := hsrcB.nofpP
    refine WD_one 13 (by kernel_rfl) rfl ?_
    refine o_appendG (R := pairR) (M := _) (gi := []) rfl rfl rfl rfl rfl (by decide) hob hsrcB hnp (Fresh.nil _ _) (fun b hb => by simp at hb) (fun b hb => (hob.lt hb).2) (fun b hb => by simp at hb) (by simp only [List.length_nil]; omega) (by simp only [List.length_nil]; omega) (by omega) ?_
    intro v13 w13 ho13 hb13 hg13 hv13
    rw [List.nil_append] at ho13
    have hr13 := fun c hc => (hob.lt (b := c) hc).1
    have hl12 := fun c hc => (ho12.lt (b := c) hc).2
    replace hS := hS.grown hg13 hr13
    have hdj : ∀ c, v12.ownBlock = some c → v13.ownBlock ≠ some c := fun c h1 h2 => by
      have h3 := hap c h1
      have h4 := hl12 c h1
      rcases hv13 with h | h
      · rw [h2] at h; simp [Value.ownBlock] at h; omega
      · rw [h2] at h; simp at h; omega
    replace ho12 := ho12.grown hg13 (fun c hc => ⟨fun e => by have := hap c e; simp [Value.ownBlock] at hc; omega, by simp⟩)
    obtain ⟨gs13, hs13, _⟩ := ho13.sl (by decide)
    have ou := hs13.oneCell
    obtain ⟨A12, n12, c12, rfl, _, _⟩ := ho12.split
    obtain ⟨A13, n13, c13, rfl, _, _⟩ := ho13.split
    have hSb := hb1.keep hS
    refine WL_end ⟨hSb, ?_⟩
    refine WD_take 14 rfl (by kernel_rfl) (by kernel_rfl) (by kernel_rfl) (by repeat (first | exact np_ret | refine np_then ?_ | refine np_in ?_)) rfl rfl (fun w' _ => o_buildT (cs := [.int .i64 x.kind, .int .i64 x.field, .int .i64 x.value, .slice A12 n12 c12, .slice A13 n13 c13]) rfl rfl) hSb ?_
    refine WD_one 15 (by kernel_rfl) rfl ?_
    have hbS := hb2.keep hS
    have hx12' := fun c hc => (ho12.lt (b := c) hc)
    have hx13' := fun c hc => (ho13.lt (b := c) hc)
    refine o_storeS (b := b2) (off := 0) rfl rfl rfl rfl (by repeat (first | exact ones_nil | refine ones_cons (by first | rfl | assumption) ?_)) rfl hbS (by simp) ?_
    intro wZ huZ
    have hbZ : Blk wZ b2 _ [.int .i64 x.kind, .int .i64 x.field, .int .i64 x.value, .slice A12 n12 c12, .slice A13 n13 c13] := huZ.blk
    have hkZ := (hk.keep hS).upd huZ (by omega)
    replace ho12 := ho12.upd huZ (fun e => by have := hx12' _ e; omega) (by simp)
    replace ho13 := ho13.upd huZ (fun e => by have := hx13' _ e; omega) (by simp)
    obtain ⟨f, hrep, hfr⟩ := wish_own (base := w.heap.size) (ho12.low (by omega)) (ho13.low (by omega)) hdj
    refine WL_end ⟨(hb1.keep hS).upd huZ (by omega), ?_⟩
    refine WD_done (by kernel_rfl) ?_
    repeat refine zz ?_
    exact retc rfl rfl hbZ.cells rfl ⟨hkZ, _, _, f, rfl, hrep, hfr⟩
end Go.E

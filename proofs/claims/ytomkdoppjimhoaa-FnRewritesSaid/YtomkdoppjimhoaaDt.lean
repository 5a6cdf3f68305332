/-
  Contracts: expressions drawn for rewriting; the draws of the law on rewriting. Conditions: as stated.
-/
import Derived.Test.YtomkdoppjimhoaaLo
import Derived.Test.YtomkdoppjimhoaaGd
import Derived.Test.YtomkdoppjimhoaaNf
set_option linter.unusedVariables false
set_option linter.unusedSimpArgs false
namespace Go.E
open Go Go.RowKit Go.Proofs
theorem LoN.own {w : World} {base : Nat} {v : Value} {E : List Nod} {fi : List Nat} (h : OwnF nodeR w base 74 v E fi) : LoN w base v E := .inl ⟨fi, h⟩
theorem LoN.low {w : World} {base : Nat} {A : Option Addr} {n c : Nat} {E : List Nod} {fi : List Nat} (h : OwnF nodeR w base 74 (.slice A n c) E fi) (hn : 1 ≤ n) : LoN w base (.slice (if c = 1 then A else A.map (·.add (1 * nodeR.sz))) (n - 1) (c - 1)) (E.drop 1) := .inr ⟨A, n, c, E, fi, h, hn, rfl, rfl⟩
theorem LoN.wrs {w w' : World} {base : Nat} {v : Value} {E : List Nod} (h : LoN w base v E) {b : Nat} (k : Wrs w w' [b]) (hb : b < base) : LoN w' base v E := by
  rcases h with ⟨fi, h⟩ | ⟨A, n, c, E0, fi, h, hn, rfl, rfl⟩
  · exact .inl ⟨fi, h.wrs k hb⟩
  · exact .inr ⟨A, n, c, E0, fi, h.wrs k hb, hn, rfl, rfl⟩
theorem LoN.keep {w w' : World} {base : Nat} {v : Value} {E : List Nod} (h : LoN w base v E) (k : Keep w w') : LoN w' base v E := by
  rcases h with ⟨fi, h⟩ | ⟨A, n, c, E0, fi, h, hn, rfl, rfl⟩
  · exact .inl ⟨fi, h.keep k⟩
  · exact .inr ⟨A, n, c, E0, fi, h.keep k, hn, rfl, rfl⟩
theorem smallE_two (k l : Int) : smallE [opN k, opN l] := fun y hy => by
  rcases List.mem_cons.1 hy with rfl | hy
  · simp [opN, totW]
  · rw [List.mem_singleton] at hy; subst hy; simp [opN, totW]
/-- nodes without anything behind them, put behind nodes that may lack their first one -/
theorem o_appLoN {P : Program} {N : Nat} {ops : Array Oper} {Q : Post} {rest : List Oper} {e : Env} {w : World} {ty : TypeId} {pos : String} {af : Array Edge} {g : Option (Nat × Bool)} {x y : Operand} {t : TypeId} {bytes : Nat} {zc : List Value} {d : Tmp}
    [ht : SliceT P t 74] [he : ElemT P 74 6 bytes zc] {base : Nat} {v : Value} {E ys : List Nod} {B : Option Addr} {m c' : Nat}
    (hg : gd ops e g = some true) (hd : Nat.blt d N = true) (hx : ev e x = some v) (hy : ev e y = some (.slice B m c')) (ho : LoN w base v E) (hs : Src nodeR w B ys []) (hm : m = ys.length) (hm0 : 0 < m)
    (h63 : E.length + 1 + ys.length ≤ 4611686018427387904) (hbytes : (E.length + 1 + ys.length) * bytes ≤ 140737488355328) (hbase : base ≤ w.heap.size)
    (kk : ∀ v' w' f row, Sl nodeR w' v' (E ++ ys) f → (∀ b, b ∈ f → base ≤ b) → w.grownBy w' row → (∀ b, row = some b → base ≤ b) → WL P N ops Q rest ((d, v') :: e) w') :
    WL P N ops Q (⟨some d, .call ⟨.builtin .append, #[x, y], #[t, t]⟩, ty, pos, af, g⟩ :: rest) e w := by
  rcases ho with ⟨fi, ho⟩ | ⟨A, n, c, E0, fi, ho, hn, rfl, rfl⟩
  · refine o_append hg hd hx hy rfl (by decide) ho.own hs hm (fun b hb => ⟨ho.out b hb, fun h => by cases h⟩) (by omega) (Nat.le_trans (Nat.mul_le_mul_right _ (by omega)) hbytes) hbase fun v' w' h1 h2 h3 => ?_
    obtain ⟨f, hsl, hfm, _⟩ := h1.sl (by decide)
    refine kk v' w' f _ hsl (fun b hb => ?_) h2 (fun b hb => (ho.lt hb).1)
    rcases hfm b hb with h | h
    · exact (h1.lt h).1
    · rw [List.append_nil] at h; exact ho.fresh.ge h
  · obtain ⟨_, _, _, hsp, hnn, _⟩ := ho.split
    simp only [Value.slice.injEq] at hsp
    obtain ⟨rfl, rfl, rfl⟩ := hsp
    rw [List.length_drop] at h63 hbytes
    exact o_appendLo (R := nodeR) hg hd hx hy rfl (by decide) ho hn hs hm hm0 (by omega) (Nat.le_trans (Nat.mul_le_mul_right _ (by omega)) hbytes) hbase kk
attribute [local irreducible] W WL WD WE thenE inE retQ PureOp Keep Cell Cells Blk Sl Rows Own Src Fresh
attribute [local irreducible] Cur LoN

set_option maxHeartbeats 2000000 in
theorem l5Any_own {w : World} {b : Nat} (hc : Cur w b) :
    Run Try.prog 73 [.pointer (some ⟨b, 0, none⟩)] w (fun r w' => ∃ (E : List Nod), LoN w' w.heap.size r E ∧ E.length ≤ 8 ∧ smallE E ∧ Cur w' b ∧ Wrs w w' [b]) := by
  have hbl := hc.lt
  have hw : Wrs w w [b] := Wrs.refl _
  refine Run_intro Try.func73 (by unfold CallOk; kernel_rfl) rfl Try.ntmps73 (Nat.le_of_ble_eq_true rfl) ?_
  simp only [penv, Nat.reduceAdd, Nat.zero_add]
  repeat refine zz ?_
  refine o_call rfl rfl rfl (l5Expression_ok hc) ?_
  rintro _ w1 ⟨E, fi, ho, hl, hl0, hsm, hc1, hw1⟩
  have hz1 := hw1.size
  replace hw := hw.trans hw1
  clear hc
  obtain ⟨A, n, c, rfl, hnx, _⟩ := ho.split
  repeat refine zz ?_
  refine o_call rfl rfl rfl (l1Below_ok hc1 (by omega)) ?_
  rintro _ w2 ⟨q, rfl, hq0, hq1, hq2, hc, hw2⟩
  have hz2 := hw2.size
  replace hw := hw.trans hw2
  replace ho := ho.wrs hw2 (by omega)
  clear hc1
  repeat refine zz ?_
  refine W_cond rfl (fun h0 => ?_) (fun h0 => ?_)
  · repeat refine zz ?_
    refine o_call rfl rfl rfl (l1Below_ok hc (by omega)) ?_
    rintro _ w3 ⟨y, rfl, hy0, hy1, hy2, hc3, hw3⟩
    have hz3 := hw3.size
    replace hw := hw.trans hw3
    replace ho := ho.wrs hw3 (by omega)
    clear hc
    repeat refine zz ?_
    refine WL_pure rfl rfl (o_buildT rfl rfl) ?_
    repeat refine zz ?_
    refine o_buildSlice rfl rfl rfl rfl rfl (by simp [Value.cells]) (by omega) ?_
    intro bN wN halN
    have hzN := halN.size
    replace hw := hw.keepR halN.kp
    replace ho := ho.keep halN.kp
    replace hc3 := hc3.keep halN.kp
    repeat refine zz ?_
    refine o_appendF (R := nodeR) (M := _) (gi := []) rfl rfl rfl rfl rfl (by decide) ho (Blk.src (xs := [opNode (y - 1)]) halN.blk (op_rows _ _)) rfl (Fresh.nil _ _) ho.fresh.dom (fun b hb => (ho.lt hb).2) (fun b hb => by simp at hb) (by simp only [List.length_append, List.length_cons, List.length_nil]; omega) (by simp only [List.length_append, List.length_cons, List.length_nil]; omega) (by omega) ?_
    intro vM wM hoM hbM hgM
    have hrow := fun c hc => (ho.lt (b := c) hc).1
    replace hw := hw.grown hgM (fun c hc => by have := hrow c hc; omega)
    replace hc3 := hc3.grown hgM (fun c hc => by have := hrow c hc; omega)
    repeat refine zz ?_
    exact ret1 rfl rfl ⟨_, LoN.own hoM, by simp only [List.length_append, List.length_cons, List.length_nil]; omega, smallE_app hsm (smallE_op _), hc3, hw⟩
  repeat refine zz ?_
  refine W_cond rfl (fun h1 => ?_) (fun h1 => ?_)
  · repeat refine zz ?_
    have hdm := ho.fresh.dom
    have hdo := fun b hb => (ho.lt (b := b) hb).2
    refine o_call rfl rfl rfl (l4Any_ok hc) ?_
    rintro _ w3 ⟨x, u, v, rfl, hL, hP, hdj, htw, hc3, hw3⟩
    have hz3 := hw3.size
    replace hw := hw.trans hw3
    replace ho := ho.wrs hw3 (by omega)
    obtain ⟨f, hr, hf⟩ := wish_own hL hP hdj
    have hfd := hf.dom
    clear hc
    repeat refine zz ?_
    refine WL_pure rfl rfl (o_buildT (cs := [.int .i64 0, .int .i64 x.kind, .int .i64 x.field, .int .i64 x.value, u, v]) rfl rfl) ?_
    repeat refine zz ?_
    refine o_buildSlice rfl rfl rfl rfl rfl (by simp [Value.cells]) (by omega) ?_
    intro bN wN halN
    have hzN := halN.size
    have hbN : Blk wN bN 74 [.int .i64 0, .int .i64 x.kind, .int .i64 x.field, .int .i64 x.value, u, v] := by simpa [Value.cells] using halN.blk
    replace hr := wishR.same hr (fun b hb => halN.kp.old (hfd b hb))
    replace hf := hf.keep halN.kp
    replace hw := hw.keepR halN.kp
    replace ho := ho.keep halN.kp
    replace hc3 := hc3.keep halN.kp
    repeat refine zz ?_
    refine o_appendF (R := nodeR) (M := w2.heap.size) (gi := f) rfl rfl rfl rfl rfl (by decide) ho (Blk.src (xs := [(⟨0, x⟩ : Nod)]) hbN (Rows.single (R := nodeR) ⟨_, rfl, hr⟩)) rfl (hf.mono (by omega)) hdm hdo (fun b hb => hf.ge hb) (by simp only [List.length_append, List.length_cons, List.length_nil]; omega) (by simp only [List.length_append, List.length_cons, List.length_nil]; omega) (by omega) ?_
    intro vM wM hoM hbM hgM
    have hrow := fun c hc => (ho.lt (b := c) hc).1
    replace hw := hw.grown hgM (fun c hc => by have := hrow c hc; omega)
    replace hc3 := hc3.grown hgM (fun c hc => by have := hrow c hc; omega)
    repeat refine zz ?_
    exact ret1 rfl rfl ⟨_, LoN.own hoM, by simp only [List.length_append, List.length_cons, List.length_nil]; omega, smallE_app hsm (smallE_one (by show totW x ≤ 1001; omega)), hc3, hw⟩
  repeat refine zz ?_
  refine W_cond rfl (fun h2 => ?_) (fun h2 => ?_)
  · repeat refine zz ?_
    refine WL_pure rfl rfl (o_slice_lo (l := 1) rfl rfl (by omega)) ?_
    repeat refine zz ?_
    exact ret1 rfl rfl ⟨E.drop 1, LoN.low ho (by omega), by simp only [List.length_drop]; omega, fun y hy => hsm y (List.mem_of_mem_drop hy), hc, hw⟩
  · repeat refine zz ?_
    exact ret1 rfl rfl ⟨E, LoN.own ho, by omega, hsm, hc, hw⟩

set_option maxHeartbeats 4000000 in
theorem l6Draw_ok {w : World} {b : Nat} (hc : Cur w b) :
    Run Try.prog 56 [.pointer (some ⟨b, 0, none⟩)] w (fun r w' => ∃ (E : List Nod) (fi : List Nat), Sl nodeR w' r E fi ∧ (∀ c, c ∈ fi → w.heap.size ≤ c) ∧ E.length ≤ 9 ∧ smallE E ∧ Cur w' b ∧ Wrs w w' [b]) := by
  have hbl := hc.lt
  have hw : Wrs w w [b] := Wrs.refl _
  refine Run_intro Try.func56 (by unfold CallOk; kernel_rfl) rfl Try.ntmps56 (Nat.le_of_ble_eq_true rfl) ?_
  simp only [penv, Nat.reduceAdd, Nat.zero_add]
  repeat refine zz ?_
  refine o_call rfl rfl rfl (l5Any_own hc) ?_
  rintro v1 w1 ⟨E, hlo, hl8, hsm, hc1, hw1⟩
  have hz1 := hw1.size
  replace hw := hw.trans hw1
  clear hc
  repeat refine zz ?_
  refine o_call rfl rfl rfl (l1Below_ok hc1 (by omega)) ?_
  rintro _ w2 ⟨q, rfl, hq0, hq1, hq2, hc, hw2⟩
  have hz2 := hw2.size
  replace hw := hw.trans hw2
  replace hlo := hlo.wrs hw2 hbl
  clear hc1
  obtain ⟨f, hs, hf⟩ := hlo.sl
  have hgb : b ∉ f := fun hm => by have := hf _ hm; omega
  obtain ⟨A, n, c, rfl, hnx⟩ := hs.split
  have htot := smallE_tot hsm
  repeat refine zz ?_
  refine W_cond rfl (fun h0 => ?_) (fun h0 => ?_)
  · repeat refine zz ?_
    refine W_cond rfl (fun h8 => ?_) (fun h8 => ?_)
    · simp at h8
      repeat refine zz ?_
      refine WL_pure rfl rfl (o_buildT (cs := [.int .i64 3, .int .i64 0, .int .i64 0, .int .i64 0, .slice none 0 0, .slice none 0 0]) rfl rfl) ?_
      repeat refine zz ?_
      refine o_buildSlice rfl rfl rfl rfl rfl (by simp [Value.cells]) (by omega) ?_
      intro bN wN halN
      have hbN : Blk wN bN 74 [.int .i64 3, .int .i64 0, .int .i64 0, .int .i64 0, .slice none 0 0, .slice none 0 0] := by simpa [Value.cells] using halN.blk
      have hzN := halN.size
      replace hw := hw.keepR halN.kp
      replace hlo := hlo.keep halN.kp
      replace hc := hc.keep halN.kp
      repeat refine zz ?_
      refine o_appLoN (ys := [opN 3]) rfl rfl rfl rfl hlo (Blk.src hbN (opN_rows _ _)) rfl (by decide) (by simp only [List.length_cons, List.length_nil]; omega) (by simp only [List.length_cons, List.length_nil]; omega) (by omega) ?_
      intro vM wM fM row hsM hfM hgM hrow
      replace hw := hw.grown hgM (fun c hc => hrow c hc)
      replace hc := hc.grown hgM (fun c hc => by have := hrow c hc; omega)
      repeat refine zz ?_
      exact ret1 rfl rfl ⟨_, fM, hsM, hfM, by simp only [List.length_append, List.length_cons, List.length_nil]; omega, smallE_app hsm (smallE_op _), hc, hw⟩
    · repeat refine zz ?_
      exact ret1 rfl rfl ⟨_, f, hs, hf, by omega, hsm, hc, hw⟩
  repeat refine zz ?_
  refine W_cond rfl (fun h1 => ?_) (fun h1 => ?_)
  · repeat refine zz ?_
    refine W_cond rfl (fun h8 => ?_) (fun h8 => ?_)
    · simp at h8
      repeat refine zz ?_
      have hd2 := hs.dom
      refine o_call rfl rfl rfl (l5Copy_own hs (by omega)) ?_
      rintro vc w3 ⟨k3, fc, hoc⟩
      have hz3 := k3.size_le
      replace hw := hw.keepR k3
      replace hs := hs.keep k3
      replace hc := hc.keep k3
      obtain ⟨gi, srE, gdE, gfE⟩ := hs.srcX
      have hown3 := fun c hc => hoc.lt (b := c) hc
      have hfc := fun c hc => hoc.fresh.ge (b := c) hc
      have hfd := hoc.fresh.dom
      have hnin : ∀ c, c ∈ fc ++ gi → w.heap.size ≤ c ∧ c < w3.heap.size := fun c hm => by
        rcases List.mem_append.1 hm with h | h
        · have := hfc c h; have := hfd c h; omega
        · have := hf c (gfE c h); have := gdE c h; omega
      repeat refine zz ?_
      refine o_append (R := nodeR) rfl rfl rfl rfl rfl (by decide) hoc.own srE hnx (fun c hc => ⟨hoc.out c hc, fun hm => by have := (hown3 c hc).1; have := hd2 c (gfE c hm); omega⟩) (by omega) (by omega) (by omega) ?_
      intro v4 w4 ho4 hg4 hv4
      have hz4 := hg4.size
      have hv4b : ∀ c, v4.ownBlock = some c → w2.heap.size ≤ c ∧ c ∉ fc ++ gi := fun c hc => by
        rcases hv4 with h | h
        · rw [h] at hc
          refine ⟨(hown3 c hc).1, fun hm => ?_⟩
          rcases List.mem_append.1 hm with h2 | h2
          · exact hoc.out c hc h2
          · have := (hown3 c hc).1; have := hd2 c (gfE c h2); omega
        · rw [h] at hc; simp only [Option.some.injEq] at hc
          exact ⟨by omega, fun hm => by have := (hnin c hm).2; omega⟩
      replace hw := hw.grown hg4 (fun c hc => by have := (hown3 c hc).1; omega)
      replace hc := hc.grown hg4 (fun c hc => by have := (hown3 c hc).1; omega)
      repeat refine zz ?_
      refine o_call rfl rfl rfl (l1Below_ok hc (by omega)) ?_
      rintro _ w5 ⟨y, rfl, hy0, hy1, hy2, hc5, hw5⟩
      have hz5 := hw5.size
      replace hw := hw.trans hw5
      replace ho4 := ho4.wrs hw5 (fun e => by have := (hv4b _ e).1; omega) (fun hm => by have := (hnin _ hm).1; omega)
      clear hc
      repeat refine zz ?_
      refine WL_pure rfl rfl (o_buildT (cs := [.int .i64 (1 + y), .int .i64 0, .int .i64 0, .int .i64 0, .slice none 0 0, .slice none 0 0]) rfl rfl) ?_
      repeat refine zz ?_
      refine o_buildSlice rfl rfl rfl rfl rfl (by simp [Value.cells]) (by omega) ?_
      intro bN wN halN
      have hbN : Blk wN bN 74 [.int .i64 (1 + y), .int .i64 0, .int .i64 0, .int .i64 0, .slice none 0 0, .slice none 0 0] := by simpa [Value.cells] using halN.blk
      have hzN := halN.size
      replace hw := hw.keepR halN.kp
      replace ho4 := ho4.keep halN.kp
      replace hc5 := hc5.keep halN.kp
      repeat refine zz ?_
      refine o_append (R := nodeR) (gi := []) rfl rfl rfl rfl rfl (by decide) ho4 (Blk.src (xs := [opN (1 + y)]) hbN (opN_rows _ _)) rfl (fun c hc => ⟨(hv4b c hc).2, fun hm => by cases hm⟩) (by simp only [List.length_append, List.length_cons, List.length_nil]; omega) (by simp only [List.length_append, List.length_cons, List.length_nil]; omega) (by omega) ?_
      intro v6 w6 ho6 hg6 hv6
      replace hw := hw.grown hg6 (fun c hc => by have := (hv4b c hc).1; omega)
      replace hc5 := hc5.grown hg6 (fun c hc => by have := (hv4b c hc).1; omega)
      obtain ⟨f6, hs6, hf6, _⟩ := ho6.sl (by decide)
      repeat refine zz ?_
      exact ret1 rfl rfl ⟨_, f6, hs6, fun c hm => by
        rcases hf6 c hm with h | h
        · have := (ho6.lt h).1; omega
        · rw [List.append_nil] at h; exact (hnin c h).1, by simp only [List.length_append, List.length_cons, List.length_nil]; omega, smallE_app (smallE_app hsm hsm) (smallE_op _), hc5, hw⟩
    · repeat refine zz ?_
      exact ret1 rfl rfl ⟨_, f, hs, hf, by omega, hsm, hc, hw⟩
  repeat refine zz ?_
  refine W_cond rfl (fun h2 => ?_) (fun h2 => ?_)
  · repeat refine zz ?_
    refine W_cond rfl (fun h8 => ?_) (fun h8 => ?_)
    · simp at h8
      repeat refine zz ?_
      refine WL_pure rfl rfl (o_buildT (cs := [.int .i64 3, .int .i64 0, .int .i64 0, .int .i64 0, .slice none 0 0, .slice none 0 0]) rfl rfl) ?_
      repeat refine zz ?_
      refine WL_pure rfl rfl (o_buildT (cs := [.int .i64 3, .int .i64 0, .int .i64 0, .int .i64 0, .slice none 0 0, .slice none 0 0]) rfl rfl) ?_
      repeat refine zz ?_
      refine o_buildSlice rfl rfl rfl rfl rfl (by simp [Value.cells]) (by omega) ?_
      intro bN wN halN
      have hbN : Blk wN bN 74 ([.int .i64 3, .int .i64 0, .int .i64 0, .int .i64 0, .slice none 0 0, .slice none 0 0] ++ [.int .i64 3, .int .i64 0, .int .i64 0, .int .i64 0, .slice none 0 0, .slice none 0 0]) := by simpa [Value.cells] using halN.blk
      have hzN := halN.size
      replace hw := hw.keepR halN.kp
      replace hlo := hlo.keep halN.kp
      replace hc := hc.keep halN.kp
      repeat refine zz ?_
      refine o_appLoN (ys := [opN 3, opN 3]) rfl rfl rfl rfl hlo (Blk.src hbN (opN_rows2 _ _ _)) rfl (by decide) (by simp only [List.length_cons, List.length_nil]; omega) (by simp only [List.length_cons, List.length_nil]; omega) (by omega) ?_
      intro vM wM fM row hsM hfM hgM hrow
      replace hw := hw.grown hgM (fun c hc => hrow c hc)
      replace hc := hc.grown hgM (fun c hc => by have := hrow c hc; omega)
      repeat refine zz ?_
      exact ret1 rfl rfl ⟨_, fM, hsM, hfM, by simp only [List.length_append, List.length_cons, List.length_nil]; omega, smallE_app hsm (smallE_two _ _), hc, hw⟩
    · repeat refine zz ?_
      exact ret1 rfl rfl ⟨_, f, hs, hf, by omega, hsm, hc, hw⟩
  · repeat refine zz ?_
    exact ret1 rfl rfl ⟨_, f, hs, hf, by omega, hsm, hc, hw⟩
end Go.E

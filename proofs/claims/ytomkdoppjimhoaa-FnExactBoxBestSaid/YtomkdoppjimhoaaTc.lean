/-
  Contracts: the tests on items by the boxes' closures, by the program. Conditions: as stated.
-/
import Derived.Test.YtomkdoppjimhoaaT8
import Derived.Test.YtomkdoppjimhoaaDv
import Derived.Test.YtomkdoppjimhoaaTa
set_option linter.unusedVariables false
set_option linter.unusedSimpArgs false
namespace Go.E
open Go Go.RowKit Go.Proofs
theorem anyB_cut (f : List Int) (zs : List (Itm × Value)) (c : List Int) : (anyB zs.length fun i => lwr f (gi zs (i : Int)).1.vals c) = cut f (zs.map Prod.fst) c := by
  show (!allB zs.length fun i => !lwr f (gi zs (i : Int)).1.vals c) = !allB (zs.map Prod.fst).length fun i => !lwr f (gi (zs.map Prod.fst) (i : Int)).vals c
  rw [List.length_map]
  congr 1
  refine allB_congr fun i hi => ?_
  rw [gi_mapI hi]
theorem filt_fst (zs : List (Itm × Value)) (p : Itm → Bool) : (zs.filter fun q => !p q.1).map Prod.fst = (zs.map Prod.fst).filter fun y => !p y := by
  induction zs with
  | nil => rfl
  | cons z r ih =>
    simp only [List.filter_cons, List.map_cons]
    cases p z.1 <;> simp [ih]
theorem Wrs.thru {w w1 w2 : World} {S T : List Nat} (h : Wrs w w1 S) (k : Wrs w1 w2 T) (hT : ∀ b, b ∈ T → b ∈ S ∨ w.heap.size ≤ b) : Wrs w w2 S :=
  ⟨k.os.trans h.os, k.tape.trans h.tape, k.output.trans h.output, Nat.le_trans h.size k.size, fun b hb hn => by
    rw [k.other b (Nat.lt_of_lt_of_le hb h.size) (fun hm => by
      rcases hT b hm with h1 | h1
      · exact hn h1
      · omega)]
    exact h.other b hb hn⟩
theorem Upd.wrs {w w' : World} {b : Nat} {t : TypeId} {cs : List Value} (k : Upd w w' b t cs) : Wrs w w' [b] :=
  ⟨k.os, k.tape, k.output, by rw [k.size]; exact Nat.le_refl _, fun c hc hm => k.other c fun e => hm (by simp [e])⟩
theorem grown_wrs {w w' : World} {b : Nat} (k : w.grownBy w' (some b)) : Wrs w w' [b] :=
  ⟨k.os, k.tape, k.output, k.size, fun c hc hm => k.block c hc fun e => hm (by simp at e; simp [e])⟩
theorem vals_of {x : Itm} (h : isItem x = true) : x.vals.length = 3 := isItem_len h
attribute [local irreducible] W WL WD WE thenE inE retQ PureOp Keep Cell Cells Blk Sl Rows Own Src Fresh
attribute [local irreducible] lwr

theorem copyInts_ok2 {w : World} {v : Value} {xs : List Int} {fp : List Nat} (hx : Sl intR w v xs fp) (hn : xs.length ≤ 1048576) :
    Run Try.prog 94 [v] w (fun r w' => Keep w w' ∧ OwnF intR w' w.heap.size 3 r xs []) := by
  obtain ⟨A, n, c, rfl, hnx⟩ := hx.split
  refine Run_intro Try.func94 (by unfold CallOk; kernel_rfl) rfl Try.ntmps94 (Nat.le_of_ble_eq_true rfl) ?_
  simp only [penv, Nat.reduceAdd, Nat.zero_add]
  repeat refine zz ?_
  refine o_buildSlice rfl rfl rfl rfl rfl (by intro p hp; cases hp) (by omega) ?_
  intro b0 w1 hal
  have hk := hal.kp
  have ho1 : OwnF intR w1 w.heap.size 3 (.slice (some ⟨b0, 0, none⟩) 0 0) [] [] := OwnF.made hal.blk (by have := hal.b_eq; omega)
  replace hx := hx.keep hk
  have hsrc := hx.srcI
  have hkz := hal.size
  repeat refine zz ?_
  refine o_appendF (R := intR) (M := w1.heap.size) (gi := []) rfl rfl rfl rfl rfl (by decide) ho1 hsrc hnx (Fresh.nil _ _) (fun b hb => by simp at hb) (fun b hb => (ho1.lt hb).2) (fun b hb => by simp at hb) (by simp only [List.length_nil]; omega) (by simp only [List.length_nil]; omega) (by omega) ?_
  intro v7 w7 ho7 hb7 hg7
  have hk7 : Keep w w7 := hk.grown hg7 (fun b hb => (ho1.lt hb).1)
  repeat refine zz ?_
  exact ret1 rfl rfl ⟨hk7, ho7⟩

theorem box1_ok {w : World} {vf vc u : Value} {f c : List Int} {x : Itm} {gf fc fu : List Nat} {b3 bc : Nat} (h3 : Blk w b3 53 [vf]) (hf : Sl intR w vf f gf) (hbc : Blk w bc 53 [vc]) (hc : Sl intR w vc c fc) (hu : Sl intR w u x.vals fu) (hx : isItem x = true) (hlc : c.length = 3) (hff : isFieldList f = true) :
    Run Try.prog 96 [.agg [.int .i64 x.id, u].toArray, .pointer (some ⟨b3, 0, none⟩), .pointer (some ⟨bc, 0, none⟩)] w (fun r w' => r = .bool (lwr f x.vals c) ∧ Keep w w') := by
  refine Run_intro Try.func96 (by unfold CallOk; kernel_rfl) rfl Try.ntmps96 (Nat.le_of_ble_eq_true rfl) ?_
  simp only [penv, Nat.reduceAdd, Nat.zero_add]
  repeat refine zz ?_
  refine o_boxS rfl rfl rfl ?_
  intro b w1 hal
  have hb := hal.blk
  have hk := hal.kp
  replace h3 := h3.keep hk
  replace hf := hf.keep hk
  replace hbc := hbc.keep hk
  replace hc := hc.keep hk
  replace hu := hu.keep hk
  have c3 := h3.cell (i := 0) rfl
  have cc := hbc.cell (i := 0) rfl
  repeat refine zz ?_
  refine o_call rfl rfl rfl (lower_ok hf hu hc (vals_of hx) hlc hff) ?_
  rintro _ w2 ⟨rfl, hk2⟩
  repeat refine zz ?_
  exact ret1 rfl rfl ⟨rfl, hk.keep hk2⟩

theorem box2_ok {w : World} {vf u ux : Value} {f : List Int} {x y : Itm} {gf fu fx : List Nat} {b3 bx : Nat} (h3 : Blk w b3 53 [vf]) (hf : Sl intR w vf f gf) (hbx : Blk w bx 90 [.int .i64 x.id, ux]) (hux : Sl intR w ux x.vals fx) (hu : Sl intR w u y.vals fu) (hx : isItem x = true) (hy : isItem y = true) (hff : isFieldList f = true) :
    Run Try.prog 98 [.agg [.int .i64 y.id, u].toArray, .pointer (some ⟨b3, 0, none⟩), .pointer (some ⟨bx, 0, none⟩)] w (fun r w' => r = .bool (lwr f y.vals x.vals) ∧ Keep w w') := by
  refine Run_intro Try.func98 (by unfold CallOk; kernel_rfl) rfl Try.ntmps98 (Nat.le_of_ble_eq_true rfl) ?_
  simp only [penv, Nat.reduceAdd, Nat.zero_add]
  repeat refine zz ?_
  refine o_boxS rfl rfl rfl ?_
  intro b w1 hal
  have hb := hal.blk
  have hk := hal.kp
  replace h3 := h3.keep hk
  replace hf := hf.keep hk
  replace hbx := hbx.keep hk
  replace hux := hux.keep hk
  replace hu := hu.keep hk
  have c3 := h3.cell (i := 0) rfl
  have cx := hbx.cells
  repeat refine zz ?_
  refine o_call rfl rfl rfl (lower_ok hf hu hux (vals_of hy) (vals_of hx) hff) ?_
  rintro _ w2 ⟨rfl, hk2⟩
  repeat refine zz ?_
  exact ret1 rfl rfl ⟨rfl, hk.keep hk2⟩

theorem box3_ok {w : World} {vf u ux : Value} {f : List Int} {x y : Itm} {gf fu fx : List Nat} {b3 bx : Nat} (h3 : Blk w b3 53 [vf]) (hf : Sl intR w vf f gf) (hbx : Blk w bx 90 [.int .i64 x.id, ux]) (hux : Sl intR w ux x.vals fx) (hu : Sl intR w u y.vals fu) (hx : isItem x = true) (hy : isItem y = true) (hff : isFieldList f = true) :
    Run Try.prog 100 [.agg [.int .i64 y.id, u].toArray, .pointer (some ⟨b3, 0, none⟩), .pointer (some ⟨bx, 0, none⟩)] w (fun r w' => r = .bool (lwr f x.vals y.vals) ∧ Keep w w') := by
  refine Run_intro Try.func100 (by unfold CallOk; kernel_rfl) rfl Try.ntmps100 (Nat.le_of_ble_eq_true rfl) ?_
  simp only [penv, Nat.reduceAdd, Nat.zero_add]
  repeat refine zz ?_
  refine o_boxS rfl rfl rfl ?_
  intro b w1 hal
  have hb := hal.blk
  have hk := hal.kp
  replace h3 := h3.keep hk
  replace hf := hf.keep hk
  replace hbx := hbx.keep hk
  replace hux := hux.keep hk
  replace hu := hu.keep hk
  have c3 := h3.cell (i := 0) rfl
  have cx := hbx.cells
  repeat refine zz ?_
  refine o_call rfl rfl rfl (lower_ok hf hux hu (vals_of hx) (vals_of hy) hff) ?_
  rintro _ w2 ⟨rfl, hk2⟩
  repeat refine zz ?_
  exact ret1 rfl rfl ⟨rfl, hk.keep hk2⟩

/-- what the program holds while it goes through boxes -/
structure BoxSt (w : World) (base b6 b3 b4 b7 : Nat) (vf : Value) (f : List Int) (gf : List Nat) (zs : List (Itm × Value)) (n : Nat) (vF : Value) (bO : Nat) (g : List Nat) : Prop where
  c6 : Blk w b6 40 [vF]
  c7 : Blk w b7 3 [.int .i64 (n : Int)]
  c3 : Blk w b3 53 [vf]
  c4 : Blk w b4 110 [.func (.func 93) ([] : List Value).toArray ([.pointer (some ⟨b6, 0, none⟩), .pointer (some ⟨b3, 0, none⟩), .pointer (some ⟨b4, 0, none⟩), .pointer (some ⟨b7, 0, none⟩)] : List Value).toArray]
  hf : Sl intR w vf f gf
  own : OwnF ivF.R w base 90 vF zs []
  blk : vF.ownBlock = some bO
  beh : BehV zs g w
  out : b6 ∉ g ∧ b7 ∉ g ∧ bO ∉ g
  lt : ∀ c, c ∈ g → c < w.heap.size
  ok : ∀ p, p ∈ zs → isItem p.1 = true
  ne : bO ≠ b6 ∧ bO ≠ b7 ∧ bO ≠ b3 ∧ bO ≠ b4
  nf : b6 ∉ gf ∧ b7 ∉ gf ∧ bO ∉ gf
  ap : b6 ≠ b7 ∧ b6 ≠ b3 ∧ b6 ≠ b4 ∧ b7 ≠ b3 ∧ b7 ≠ b4
section
variable {w w' : World} {base b6 b3 b4 b7 : Nat} {vf : Value} {f : List Int} {gf : List Nat} {zs : List (Itm × Value)} {n : Nat} {vF : Value} {bO : Nat} {g : List Nat}
theorem BoxSt.keep (h : BoxSt w base b6 b3 b4 b7 vf f gf zs n vF bO g) (k : Keep w w') : BoxSt w' base b6 b3 b4 b7 vf f gf zs n vF bO g :=
  ⟨h.c6.keep k, h.c7.keep k, h.c3.keep k, h.c4.keep k, h.hf.keep k, h.own.keep k, h.blk, h.beh.keep k, h.out, fun c hc => Nat.lt_of_lt_of_le (h.lt c hc) k.size_le, h.ok, h.ne, h.nf, h.ap⟩
theorem BoxSt.lo (h : BoxSt w base b6 b3 b4 b7 vf f gf zs n vF bO g) : bO < w.heap.size := (h.own.lt h.blk).2
/-- the count turns -/
theorem BoxSt.count (h : BoxSt w base b6 b3 b4 b7 vf f gf zs n vF bO g) {m : Nat} (k : Upd w w' b7 3 [.int .i64 (m : Int)]) : BoxSt w' base b6 b3 b4 b7 vf f gf zs m vF bO g :=
  ⟨h.c6.upd k h.ap.1, k.blk, h.c3.upd k (fun e => h.ap.2.2.2.1 e.symm), h.c4.upd k (fun e => h.ap.2.2.2.2 e.symm), h.hf.upd k h.nf.2.1, h.own.upd k (fun e => h.ne.2.1 (by rw [h.blk] at e; simpa using e)) (by simp), h.blk, h.beh.upd k h.out.2.1, h.out, fun c hc => by rw [k.size]; exact h.lt c hc, h.ok, h.ne, h.nf, h.ap⟩
end
end Go.E

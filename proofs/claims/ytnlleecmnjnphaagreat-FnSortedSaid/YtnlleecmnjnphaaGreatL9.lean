/-
  Contracts: the places of items in the order of a field, by the reference. Conditions: as stated.
-/
import Derived.Test.YtnlleecmnjnphaaGreatSo
set_option linter.unusedVariables false
set_option linter.unusedSimpArgs false
namespace Go.E
open Go Go.RowKit Go.Proofs
theorem OwnF.below {α : Type} {R : Rp α} {w : World} {base base' : Nat} {el : TypeId} {v : Value} {xs : List α} {fi : List Nat} (h : OwnF R w base el v xs fi) (hb : base' ≤ base) : OwnF R w base' el v xs fi := by
  obtain ⟨⟨cells, ⟨hl, h1⟩, h2⟩, h3, h4⟩ := h
  refine ⟨⟨cells, ⟨hl, ?_⟩, h2⟩, h3.mono hb, h4⟩
  rcases h1 with h1 | ⟨b, cap, cur, e, hbb, hr⟩
  · exact .inl h1
  · exact .inr ⟨b, cap, cur, e, Nat.le_trans hb hbb, hr⟩
theorem Rows.noI {w : World} : ∀ {xs : List Int} {cs : List Value} {fp : List Nat}, Rows intR w xs cs fp → fp = [] ∧ cs = xs.map (Value.int .i64)
  | [], _, _, h => ⟨h.2, h.1⟩
  | x :: xs, _, _, h => by
    obtain ⟨c1, c2, f1, f2, rfl, rfl, h1, h2⟩ := h
    obtain ⟨rfl, rfl⟩ := h1
    obtain ⟨h3, h4⟩ := Rows.noI h2
    exact ⟨by rw [h3]; rfl, by rw [h4]; rfl⟩
theorem Sl.srcI {w : World} {A : Option Addr} {n c : Nat} {xs : List Int} {fp : List Nat} (h : Sl intR w (.slice A n c) xs fp) : Src intR w A xs [] := by
  obtain ⟨g, ⟨nw, hr, hc⟩, _⟩ := h.src
  obtain ⟨rfl, _⟩ := hr.noI
  exact ⟨nw, hr, hc⟩
theorem Src.takeI {w : World} {A : Option Addr} {xs : List Int} (h : Src intR w A xs []) (k : Nat) : Src intR w A (xs.take k) [] := by
  obtain ⟨nw, hr, hc⟩ := h
  obtain ⟨_, rfl⟩ := hr.noI
  refine ⟨(xs.take k).map (Value.int .i64), Rows.ints w _, ?_⟩
  rcases hc with ⟨h1, h2⟩ | ⟨ad, rfl, hc⟩
  · left; subst h2; simp
  · right
    refine ⟨ad, rfl, fun j u hu => hc j u ?_⟩
    rw [List.map_take, List.getElem?_take] at hu
    split at hu
    · exact hu
    · cases hu
theorem Src.dropI {w : World} {A : Option Addr} {xs : List Int} (h : Src intR w A xs []) {k c : Nat} (hk : k ≤ xs.length) (hc : xs.length ≤ c) : Src intR w (if c = k then A else A.map (·.add (k * 1))) (xs.drop k) [] := by
  obtain ⟨nw, hr, hs⟩ := h
  obtain ⟨_, rfl⟩ := hr.noI
  refine ⟨(xs.drop k).map (Value.int .i64), Rows.ints w _, ?_⟩
  by_cases hd : xs.drop k = []
  · left; rw [hd]; exact ⟨rfl, rfl⟩
  · have hne : c ≠ k := fun e => hd (List.drop_of_length_le (by omega))
    rcases hs with ⟨h1, h2⟩ | ⟨ad, rfl, hs⟩
    · left; subst h2; simp
    · right
      rw [if_neg hne]
      refine ⟨_, rfl, fun j u hu => ?_⟩
      rw [add_add]
      refine hs _ u ?_
      rw [List.map_drop, List.getElem?_drop] at hu
      rwa [Nat.mul_one]
attribute [local irreducible] W WL WD WE thenE inE retQ PureOp Keep Cell Cells Blk Sl Rows Own Src Fresh

def fval (k : Int) (x : Itm) : Int := gi x.vals k
theorem sortN_rng {f : Int → Int} {n i : Nat} (hi : i ≤ n) : ∀ y, y ∈ sortN f (iota 0 n) i → 0 ≤ y ∧ y < n := by
  intro y hy
  have h1 := (sortN_perm f (iota 0 n) i (by rw [iota_len]; exact hi)).mem_iff.1 hy
  have h2 := List.mem_of_mem_take h1
  simp [iota] at h2
  obtain ⟨a, ha, rfl⟩ := h2
  omega

set_option maxHeartbeats 1000000 in
theorem l9Order_ok {w : World} {v : Value} {L : List Itm} {fp : List Nat} {field : Int} (hx : Sl itemR w v L fp) (hn : L.length ≤ 16) (hv : ∀ i, i < L.length → (gi L (i : Int)).vals.length = 3) (hf : 0 ≤ field ∧ field ≤ 2) :
    Run Tryz.prog 26 [v, .int .i64 field] w (fun r w' => Keep w w' ∧ ∃ fp, Sl intR w' r (sortP (fun i => fval field (gi L i)) (iota 0 L.length)) fp ∧ Fresh w.heap.size w' fp) := by
  obtain ⟨A, n, c, rfl, hnx⟩ := hx.split
  generalize hF : (fun i => fval field (gi L i)) = f
  have hfe : ∀ i, f i = gi (gi L i).vals field := fun i => by rw [← hF]; rfl
  refine Run_intro Tryz.func26 (by unfold CallOk; kernel_rfl) rfl Tryz.ntmps26 (Nat.le_of_ble_eq_true rfl) ?_
  simp only [penv, Nat.reduceAdd, Nat.zero_add]
  repeat refine zz ?_
  refine o_buildSlice rfl rfl rfl rfl rfl (by intro p hp; cases hp) (by omega) ?_
  intro b0 w1 hal
  have hk1 := hal.kp
  have ho1 : OwnF intR w1 w.heap.size 3 (.slice (some ⟨b0, 0, none⟩) 0 0) [] [] := OwnF.made hal.blk (by have := hal.b_eq; omega)
  repeat refine zz ?_
  refine W_loop (S := Nat × Value) (fun s => [(0, .slice A n c), (1, .int .i64 field), (5, s.2), (6, .int .i64 (s.1 : Int))]) (fun s w' => Keep w w' ∧ s.1 ≤ n ∧ OwnF intR w' w.heap.size 3 s.2 (sortN f (iota 0 n) s.1) []) (fun s => n - s.1) (0, _) ⟨rfl, rfl, rfl, rfl, trivial⟩ ⟨hk1, by omega, by simpa [sortN] using ho1⟩ ?_
  rintro ⟨i, va⟩ wa ⟨hka, hi, hoa⟩
  dsimp only at hi hoa ⊢
  obtain ⟨Ao, no, co, rfl, hno, hnc⟩ := hoa.split
  rw [sortN_len] at hno
  obtain rfl : i = no := hno.symm
  repeat refine zz ?_
  refine W_cond rfl (fun hc => ?_) (fun hc => ?_)
  · have hin : i < n := by simp at hc; omega
    generalize hS : sortN f (iota 0 n) i = S at hoa
    have hSl : S.length = i := by rw [← hS, sortN_len]
    have hSr : ∀ y, y ∈ S → 0 ≤ y ∧ y < n := by rw [← hS]; exact sortN_rng hi
    repeat refine zz ?_
    refine W_loop (S := Nat) (fun k => [(0, .slice A n c), (1, .int .i64 field), (5, .slice Ao i co), (6, .int .i64 (i : Int)), (7, .int .i64 (k : Int))]) (fun k w' => Keep wa w' ∧ k ≤ i ∧ posP f S (i : Int) i = posP f S (i : Int) k) (fun k => k) i ⟨rfl, rfl, rfl, rfl, rfl, trivial⟩ ⟨Keep.refl _, Nat.le_refl _, rfl⟩ ?_
    rintro k wb ⟨hkb, hki, hpos⟩
    have hkc := hka.keep hkb
    have hxb := hx.keep hkc
    have hob := hoa.keep hkb
    obtain ⟨fo, hso, hfo⟩ := hob.sl (by decide)
    repeat refine zz ?_
    refine W_quiet (Keep wb) (by kernel_rfl) (by kernel_rfl) (Keep.drew _) ?_
    repeat refine qq ?_
    refine WQ_part rfl rfl (fun h => ?_) (fun h => ?_)
    · simp at h
      have hgm := hSr _ (gi_mem (xs := S) (i := k - 1) (by omega))
      rw [show ((k - 1 : Nat) : Int) = (k : Int) - 1 by omega] at hgm
      obtain ⟨hAo, hck⟩ := hso.getI (i := (k : Int) - 1) (by omega) (by omega)
      obtain ⟨hA, u1, f1, hcell1, hu1, _⟩ := item_get hxb (i := gi S ((k : Int) - 1)) (by omega) (by omega)
      obtain ⟨_, u2, f2, hcell2, hu2, _⟩ := item_get hxb (i := (i : Int)) (by omega) (by omega)
      have hl1 := hv (gi S ((k : Int) - 1)).toNat (by omega)
      rw [show (((gi S ((k : Int) - 1)).toNat : Nat) : Int) = gi S ((k : Int) - 1) by omega] at hl1
      have hl2 := hv i (by omega)
      obtain ⟨A1, n1, c1, rfl, hn1⟩ := hu1.split
      obtain ⟨A2, n2, c2, rfl, hn2⟩ := hu2.split
      obtain ⟨hA1, hv1⟩ := hu1.getI (i := field) (by omega) (by omega)
      obtain ⟨hA2, hv2⟩ := hu2.getI (i := field) (by omega) (by omega)
      repeat refine qq ?_
      intro wd hkd 
      have hpk : posP f S (i : Int) k = if f (i : Int) < f (gi S ((k : Int) - 1)) then posP f S (i : Int) (k - 1) else k := by
        obtain ⟨m, rfl⟩ : ∃ m, k = m + 1 := ⟨k - 1, by omega⟩
        simp only [posP, Nat.add_sub_cancel]
        rw [show ((m + 1 : Nat) : Int) - 1 = (m : Int) by omega]
      rw [← hfe, ← hfe]
      repeat refine zz ?_
      refine W_cond rfl (fun hd => ?_) (fun hd => ?_)
      · simp at hd
        repeat refine zz ?_
        rw [if_pos hd] at hpk
        exact ⟨k - 1, ⟨rfl, rfl, rfl, rfl, find_int rfl (by omega), trivial⟩, ⟨hkb.keep hkd, by omega, by rw [hpos, hpk]⟩, by omega⟩
      · simp at hd
        repeat refine zz ?_
        rw [if_neg (by omega)] at hpk
        rw [hpk] at hpos
        have hkd2 := hkc.keep hkd
        have hod := hob.keep hkd
        have hsd := hso.keep hkd
        refine o_buildSlice rfl rfl rfl rfl rfl (by intro p hp; cases hp) (by omega) ?_
        intro b2 w2 hal2
        have hk2 := hal2.kp
        have ho2 : OwnF intR w2 wd.heap.size 3 (.slice (some ⟨b2, 0, none⟩) 0 0) [] [] := OwnF.made hal2.blk (by have := hal2.b_eq; omega)
        have hz2 := hk2.size_le
        repeat refine zz ?_
        refine WL_pure rfl rfl (o_slice_hi (h := k) rfl rfl (by omega)) ?_
        repeat refine zz ?_
        refine o_appendF (R := intR) (M := _) (gi := []) rfl rfl rfl rfl rfl (by decide) ho2 ((hsd.keep hk2).srcI.takeI k) (by rw [List.length_take]; omega) (Fresh.nil _ _) (fun b hb => by simp at hb) (fun b hb => (ho2.lt hb).2) (fun b hb => by simp at hb) (by rw [List.length_take]; simp only [List.length_nil]; omega) (by rw [List.length_take]; simp only [List.length_nil]; omega) (by omega) ?_
        intro v3 w3 ho3 hb3 hg3
        have hk3 : Keep wd w3 := hk2.grown hg3 (fun b hb => (ho2.lt hb).1)
        repeat refine zz ?_
        refine o_buildSlice rfl rfl rfl rfl rfl (by simp [Value.cells]) (by omega) ?_
        intro b4 w4 hal4
        have hk4 := hk3.keep hal4.kp
        have ho4 := ho3.keep hal4.kp
        have hz4 := hk4.size_le
        repeat refine zz ?_
        refine o_appendF (R := intR) (M := _) (gi := []) rfl rfl rfl rfl rfl (by decide) ho4 (Blk.src (xs := [(i : Int)]) hal4.blk (Rows.ints _ _)) rfl (Fresh.nil _ _) (fun b hb => by simp at hb) (fun b hb => (ho4.lt hb).2) (fun b hb => by simp at hb) (by simp only [List.nil_append, List.length_take, List.length_cons, List.length_nil]; omega) (by simp only [List.nil_append, List.length_take, List.length_cons, List.length_nil]; omega) (by omega) ?_
        intro v5 w5 ho5 hb5 hg5
        have hk5 : Keep wd w5 := hk4.grown hg5 (fun b hb => (ho4.lt hb).1)
        have hz5 := hk5.size_le
        repeat refine zz ?_
        refine WL_pure rfl rfl (o_slice_lo (l := k) rfl rfl (by omega)) ?_
        repeat refine zz ?_
        refine o_appendF (R := intR) (M := _) (gi := []) rfl rfl rfl rfl rfl (by decide) ho5 ((hsd.keep hk5).srcI.dropI (k := k) (c := co) (by omega) (by omega)) (by rw [List.length_drop]; omega) (Fresh.nil _ _) (fun b hb => by simp at hb) (fun b hb => (ho5.lt hb).2) (fun b hb => by simp at hb) (by simp only [List.length_append, List.nil_append, List.length_take, List.length_drop, List.length_cons, List.length_nil]; omega) (by simp only [List.length_append, List.nil_append, List.length_take, List.length_drop, List.length_cons, List.length_nil]; omega) (by omega) ?_
        intro v6 w6 ho6 hb6 hg6
        have hk6 : Keep wd w6 := hk5.grown hg6 (fun b hb => (ho5.lt hb).1)
        repeat refine zz ?_
        have e : sortN f (iota 0 n) (i + 1) = [] ++ S.take k ++ [(i : Int)] ++ S.drop k := by
          rw [sortN, hS, insP, gi_iota hin, Int.zero_add, hSl, hpos]; simp
        refine ⟨(i + 1, v6), ⟨rfl, rfl, rfl, rfl, trivial⟩, ⟨hkd2.keep hk6, by dsimp only; omega, ?_⟩, by dsimp only; omega⟩
        dsimp only
        rw [e]
        exact ho6.below (hkd2.size_le)
    · simp at h
      repeat refine qq ?_
      intro wd hkd 
      obtain rfl : k = 0 := by omega
      have hpos : posP f S (i : Int) i = 0 := by rw [hpos]; rfl
      repeat refine zz ?_
      have hkd2 := hkc.keep hkd
      have hod := hob.keep hkd
      have hsd := hso.keep hkd
      refine o_buildSlice rfl rfl rfl rfl rfl (by intro p hp; cases hp) (by omega) ?_
      intro b2 w2 hal2
      have hk2 := hal2.kp
      have ho2 : OwnF intR w2 wd.heap.size 3 (.slice (some ⟨b2, 0, none⟩) 0 0) [] [] := OwnF.made hal2.blk (by have := hal2.b_eq; omega)
      have hz2 := hk2.size_le
      repeat refine zz ?_
      refine WL_pure rfl rfl (o_slice_hi (h := 0) rfl rfl (by omega)) ?_
      repeat refine zz ?_
      refine o_appendF (R := intR) (M := _) (gi := []) rfl rfl rfl rfl rfl (by decide) ho2 ((hsd.keep hk2).srcI.takeI 0) (by rw [List.length_take]; omega) (Fresh.nil _ _) (fun b hb => by simp at hb) (fun b hb => (ho2.lt hb).2) (fun b hb => by simp at hb) (by rw [List.length_take]; simp only [List.length_nil]; omega) (by rw [List.length_take]; simp only [List.length_nil]; omega) (by omega) ?_
      intro v3 w3 ho3 hb3 hg3
      have hk3 : Keep wd w3 := hk2.grown hg3 (fun b hb => (ho2.lt hb).1)
      repeat refine zz ?_
      refine o_buildSlice rfl rfl rfl rfl rfl (by simp [Value.cells]) (by omega) ?_
      intro b4 w4 hal4
      have hk4 := hk3.keep hal4.kp
      have ho4 := ho3.keep hal4.kp
      have hz4 := hk4.size_le
      repeat refine zz ?_
      refine o_appendF (R := intR) (M := _) (gi := []) rfl rfl rfl rfl rfl (by decide) ho4 (Blk.src (xs := [(i : Int)]) hal4.blk (Rows.ints _ _)) rfl (Fresh.nil _ _) (fun b hb => by simp at hb) (fun b hb => (ho4.lt hb).2) (fun b hb => by simp at hb) (by simp only [List.nil_append, List.length_take, List.length_cons, List.length_nil]; omega) (by simp only [List.nil_append, List.length_take, List.length_cons, List.length_nil]; omega) (by omega) ?_
      intro v5 w5 ho5 hb5 hg5
      have hk5 : Keep wd w5 := hk4.grown hg5 (fun b hb => (ho4.lt hb).1)
      have hz5 := hk5.size_le
      repeat refine zz ?_
      refine WL_pure rfl rfl (o_slice_lo (l := 0) rfl rfl (by omega)) ?_
      repeat refine zz ?_
      refine o_appendF (R := intR) (M := _) (gi := []) rfl rfl rfl rfl rfl (by decide) ho5 ((hsd.keep hk5).srcI.dropI (k := 0) (c := co) (by omega) (by omega)) (by rw [List.length_drop]; omega) (Fresh.nil _ _) (fun b hb => by simp at hb) (fun b hb => (ho5.lt hb).2) (fun b hb => by simp at hb) (by simp only [List.length_append, List.nil_append, List.length_take, List.length_drop, List.length_cons, List.length_nil]; omega) (by simp only [List.length_append, List.nil_append, List.length_take, List.length_drop, List.length_cons, List.length_nil]; omega) (by omega) ?_
      intro v6 w6 ho6 hb6 hg6
      have hk6 : Keep wd w6 := hk5.grown hg6 (fun b hb => (ho5.lt hb).1)
      repeat refine zz ?_
      have e : sortN f (iota 0 n) (i + 1) = [] ++ S.take 0 ++ [(i : Int)] ++ S.drop 0 := by
        rw [sortN, hS, insP, gi_iota hin, Int.zero_add, hSl, hpos]; simp
      refine ⟨(i + 1, v6), ⟨rfl, rfl, rfl, rfl, trivial⟩, ⟨hkd2.keep hk6, by dsimp only; omega, ?_⟩, by dsimp only; omega⟩
      dsimp only
      rw [e]
      exact ho6.below (hkd2.size_le)
  · simp at hc
    obtain rfl : i = n := by omega
    repeat refine zz ?_
    obtain ⟨fp, hs, hf⟩ := hoa.sl (by decide)
    exact ret1 rfl rfl ⟨hka, fp, by rw [sortP, iota_len, ← hnx]; exact hs, hf⟩
end Go.E

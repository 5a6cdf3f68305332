/-
  Contracts: sorting items by a field, stably. Conditions: as stated.
-/
import Derived.Test.YtnlleecmnjnphaaGreatIs
set_option linter.unusedVariables false
set_option linter.unusedSimpArgs false
namespace Go.E
open Go Go.RowKit Go.Proofs
theorem areItems_each {L : List Itm} (h : areItems L = true) : (∀ i : Nat, i < L.length → isItem (gi L (i : Int)) = true) ∧ L.length ≤ 16 := by
  simp only [areItems, Bool.and_eq_true, decide_eq_true_eq] at h
  refine ⟨fun i hi => ?_, h.2⟩
  have := List.all_eq_true.1 h.1 i (by simpa using hi)
  simp only [itAt, Bool.and_eq_true] at this
  exact this.1
/-- what lies behind the items of a row that is sorted -/
def Beh (L : List Itm) (U : Int → Value) (g : List Nat) (w : World) : Prop := ∀ i : Nat, i < L.length → ∃ f, Sl intR w (U (i : Int)) (gi L (i : Int)).vals f ∧ ∀ b, b ∈ f → b ∈ g
theorem Beh.keep {L : List Itm} {U : Int → Value} {g : List Nat} {w w' : World} (h : Beh L U g w) (k : Keep w w') : Beh L U g w' := fun i hi => by
  obtain ⟨f, h1, h2⟩ := h i hi
  exact ⟨f, h1.keep k, h2⟩
theorem Beh.upd {L : List Itm} {U : Int → Value} {g : List Nat} {w w' : World} {b : Nat} {t : TypeId} {cs : List Value} (h : Beh L U g w) (k : Upd w w' b t cs) (hb : b ∉ g) : Beh L U g w' := fun i hi => by
  obtain ⟨f, h1, h2⟩ := h i hi
  exact ⟨f, h1.upd k (fun hm => hb (h2 b hm)), h2⟩
def aOf (L : List Itm) (i : Int) : Value := .int .i64 (gi L i).id
def uOf (cells : List Value) (i : Int) : Value := cells.getD (i.toNat * 2 + 1) (.bool false)
theorem rows_flat {L : List Itm} {cells : List Value} {g : List Nat} {w : World} (h : Rows itemR w L cells g) :
    cells = (iota 0 L.length).flatMap (cfv (aOf L) (uOf cells)) ∧ Beh L (uOf cells) g w := by
  have hl := h.len
  have hsz : itemR.sz = 2 := rfl
  rw [hsz] at hl
  have key : ∀ k : Nat, k < L.length → cells[k * 2]? = some (aOf L (k : Int)) ∧ ∃ u f, cells[k * 2 + 1]? = some u ∧ Sl intR w u (gi L (k : Int)).vals f ∧ ∀ b, b ∈ f → b ∈ g := fun k hk => by
    obtain ⟨c1, ck, c2, f1, fk, f2, rfl, rfl, _, ⟨u, rfl, hu⟩, _, h4, _⟩ := h.split hk
    rw [hsz] at h4
    refine ⟨?_, u, fk, ?_, by rw [gi_lt hk]; exact hu, fun b hb => List.mem_append_right _ (List.mem_append_left _ hb)⟩
    · rw [List.getElem?_append_right (by omega), h4, Nat.sub_self, aOf, gi_lt hk]; rfl
    · rw [List.getElem?_append_right (by omega), h4, show k * 2 + 1 - k * 2 = 1 by omega]; rfl
  refine ⟨List.ext_getElem? fun m => ?_, fun i hi => ?_⟩
  · have hil : (iota 0 L.length).length = L.length := iota_len _ _
    have hfl : ((iota 0 L.length).flatMap (cfv (aOf L) (uOf cells))).length = L.length * 2 := by rw [fm_len (fun _ => rfl), hil]
    rcases Nat.lt_or_ge m (L.length * 2) with hm | hm
    · obtain ⟨k, r, rfl, hr⟩ : ∃ k r, m = k * 2 + r ∧ r < 2 := ⟨m / 2, m % 2, by omega, by omega⟩
      obtain ⟨h1, u, f, h2, _⟩ := key k (by omega)
      have hg : gi (iota 0 L.length) (k : Int) = (k : Int) := by rw [gi_iota (by omega)]; omega
      have hat : ∀ u, (cfv (aOf L) (uOf cells) (k : Int))[r]? = some u → ((iota 0 L.length).flatMap (cfv (aOf L) (uOf cells)))[k * 2 + r]? = some u := fun u hu => by
        have := fm_at (cf := cfv (aOf L) (uOf cells)) (fun _ => rfl) (pad := []) (ps := iota 0 L.length) (k := k) (r := r) (u := u) (by omega) (by rw [hg]; exact hu)
        rwa [List.append_nil] at this
      rcases (show r = 0 ∨ r = 1 by omega) with rfl | rfl
      · rw [Nat.add_zero, h1]; exact (hat _ rfl).symm
      · rw [h2]; refine (hat _ ?_).symm
        show some (uOf cells (k : Int)) = some u
        rw [uOf, List.getD_eq_getElem?_getD, show ((k : Int)).toNat = k by omega, h2]; rfl
    · rw [List.getElem?_eq_none (by omega), List.getElem?_eq_none (by omega)]
  · obtain ⟨_, u, f, h2, h3, h4⟩ := key i hi
    refine ⟨f, ?_, h4⟩
    rw [uOf, List.getD_eq_getElem?_getD, show ((i : Int)).toNat = i by omega, h2]; exact h3
theorem flat_rows {L : List Itm} {U : Int → Value} {g : List Nat} {w : World} (hB : Beh L U g w) : ∀ ps : List Int, (∀ i, i ∈ ps → 0 ≤ i ∧ i < L.length) → ∃ f, Rows itemR w (ps.map fun i => gi L i) (ps.flatMap (cfv (aOf L) U)) f ∧ ∀ b, b ∈ f → b ∈ g := by
  intro ps
  induction ps with
  | nil => intro _; exact ⟨[], ⟨rfl, rfl⟩, fun b hb => by simp at hb⟩
  | cons x r ih =>
    intro h
    obtain ⟨f, h1, h2⟩ := ih fun i hi => h i (List.mem_cons_of_mem _ hi)
    have hx := h x (by simp)
    obtain ⟨f0, h3, h4⟩ := hB x.toNat (by omega)
    rw [show ((x.toNat : Nat) : Int) = x by omega] at h3
    exact ⟨f0 ++ f, ⟨_, _, f0, f, List.flatMap_cons, rfl, ⟨U x, rfl, h3⟩, h1⟩, fun b hb => (List.mem_append.1 hb).elim (h4 b) (h2 b)⟩

theorem Own.parts {α : Type} {R : Rp α} {w : World} {base : Nat} {el : TypeId} {v : Value} {xs : List α} {fi : List Nat} (h : Own R w base el v xs fi) : ∃ cells, Rows R w xs cells fi ∧ ((v = .slice none 0 0 ∧ xs.length = 0) ∨
    ∃ b cap cl, v = .slice (some ⟨b, 0, none⟩) xs.length cap ∧ base ≤ b ∧ Blk w b el cl ∧ xs.length ≤ cap ∧ cap ≤ 9223372036854775807 ∧ cl.take (xs.length * R.sz) = cells) := by
  obtain ⟨cells, ⟨hl, h1⟩, h2⟩ := h
  refine ⟨cells, h2, ?_⟩
  rcases h1 with h1 | ⟨b, cap, cur, rfl, hb, hg, hle, hm, hcs, htk⟩
  · exact .inl h1
  · have : maxLen ≤ 9223372036854775807 := by decide
    exact .inr ⟨b, cap, cur.toList, rfl, hb, by simpa [Blk] using hg, hle, by omega, htk⟩
theorem Sl.nil_ {α : Type} {R : Rp α} (w : World) : Sl R w (.slice none 0 0) ([] : List α) [] := ⟨none, 0, [], [], rfl, ⟨Nat.zero_le _, by omega⟩, ⟨rfl, rfl⟩, .inl ⟨rfl, rfl, rfl⟩⟩
attribute [local irreducible] W WL WD WE thenE inE retQ PureOp Keep Cell Cells Blk Sl Rows Own Src Fresh
attribute [local irreducible] posP sortN qL List.flatMap

set_option maxHeartbeats 1000000 in
theorem stableCmp_ok {w : World} {b c n : Nat} {ps : List Int} {pad : List Value} {A U : Int → Value} {v : Int → Int} {f : FuncId} {ca : List Value} {I : World → Prop}
    (hone : ∀ i, i ∈ ps → (A i).oneCell' = true ∧ (U i).oneCell' = true)
    (hI1 : ∀ w1 w2, I w1 → Keep w1 w2 → I w2) (hI2 : ∀ w1 w2 cs, I w1 → Upd w1 w2 b 45 cs → I w2)
    (hcmp : ∀ w1 i j, I w1 → i ∈ ps → j ∈ ps → Run Tryz.prog f ([] ++ [.agg [A i, U i].toArray, .agg [A j, U j].toArray] ++ ca) w1 (fun r w2 => r = .int .i64 (v i - v j) ∧ Keep w1 w2))
    (hv : ∀ i, i ∈ ps → 0 ≤ v i ∧ v i ≤ 1000)
    (hb : Blk w b 45 (ps.flatMap (cfv A U) ++ pad)) (hn : n = ps.length) (hn16 : n ≤ 16) (hIw : I w) :
    Run Tryz.prog 70 [.slice (some ⟨b, 0, none⟩) n c, .int .i64 n, .func (.func f) ([] : List Value).toArray ca.toArray] w (fun r w' => Blk w' b 45 ((sortP v ps).flatMap (cfv A U) ++ pad) ∧ Wrs w w' [b] ∧ I w') := by
  refine Run_intro Tryz.func70 (by unfold CallOk; kernel_rfl) rfl Tryz.ntmps70 (Nat.le_of_ble_eq_true rfl) ?_
  simp only [penv, Nat.reduceAdd, Nat.zero_add]
  repeat refine zz ?_
  refine W_loop (S := Unit) (fun _ => [(0, .slice (some ⟨b, 0, none⟩) n c), (1, .int .i64 n), (2, .func (.func f) ([] : List Value).toArray ca.toArray), (6, .int .i64 20), (7, .int .i64 0), (8, .int .i64 20)]) (fun _ w' => w' = w) (fun _ => 0) () ⟨rfl, rfl, rfl, rfl, rfl, rfl, trivial⟩ rfl ?_
  rintro _ w' rfl
  repeat refine zz ?_
  refine W_cond rfl (fun hc => ?_) (fun hc => ?_)
  · exfalso; simp at hc; omega
  repeat refine zz ?_
  refine o_call rfl rfl rfl (insertionSort_ok hone hI1 hI2 hcmp hv hb hn hn16 hIw) ?_
  rintro _ w1 ⟨hb1, hw1, hI1'⟩
  repeat refine zz ?_
  refine W_loop (S := Unit) (fun _ => [(1, .int .i64 n), (6, .int .i64 20)]) (fun _ w' => w' = w1) (fun _ => 0) () ⟨rfl, rfl, trivial⟩ rfl ?_
  rintro _ w'' rfl
  repeat refine zz ?_
  refine W_cond rfl (fun hc2 => ?_) (fun hc2 => ?_)
  · exfalso; simp at hc2; omega
  repeat refine zz ?_
  exact ret0n rfl ⟨hb1, hw1, hI1'⟩

set_option maxHeartbeats 1000000 in
theorem sortStable_ok {w : World} {b c n : Nat} {ps : List Int} {pad : List Value} {A U : Int → Value} {v : Int → Int} {f : FuncId} {ca : List Value} {I : World → Prop}
    (hone : ∀ i, i ∈ ps → (A i).oneCell' = true ∧ (U i).oneCell' = true)
    (hI1 : ∀ w1 w2, I w1 → Keep w1 w2 → I w2) (hI2 : ∀ w1 w2 cs, I w1 → Upd w1 w2 b 45 cs → I w2)
    (hcmp : ∀ w1 i j, I w1 → i ∈ ps → j ∈ ps → Run Tryz.prog f ([] ++ [.agg [A i, U i].toArray, .agg [A j, U j].toArray] ++ ca) w1 (fun r w2 => r = .int .i64 (v i - v j) ∧ Keep w1 w2))
    (hv : ∀ i, i ∈ ps → 0 ≤ v i ∧ v i ≤ 1000)
    (hb : Blk w b 45 (ps.flatMap (cfv A U) ++ pad)) (hn : n = ps.length) (hn16 : n ≤ 16) (hIw : I w) :
    Run Tryz.prog 52 [.slice (some ⟨b, 0, none⟩) n c, .func (.func f) ([] : List Value).toArray ca.toArray] w (fun r w' => Blk w' b 45 ((sortP v ps).flatMap (cfv A U) ++ pad) ∧ Wrs w w' [b] ∧ I w') := by
  refine Run_intro Tryz.func52 (by unfold CallOk; kernel_rfl) rfl Tryz.ntmps52 (Nat.le_of_ble_eq_true rfl) ?_
  simp only [penv, Nat.reduceAdd, Nat.zero_add]
  repeat refine zz ?_
  refine o_call rfl rfl rfl (stableCmp_ok hone hI1 hI2 hcmp hv hb hn hn16 hIw) ?_
  rintro _ w1 ⟨hb1, hw1, hI1'⟩
  repeat refine zz ?_
  exact ret0n rfl ⟨hb1, hw1, hI1'⟩

set_option maxHeartbeats 1000000 in
theorem sortStable0_ok {w : World} {A : Option Addr} {c : Nat} {f : FuncId} {ca : List Value} :
    Run Tryz.prog 52 [.slice A 0 c, .func (.func f) ([] : List Value).toArray ca.toArray] w (fun r w' => w = w') := by
  refine Run_intro Tryz.func52 (by unfold CallOk; kernel_rfl) rfl Tryz.ntmps52 (Nat.le_of_ble_eq_true rfl) ?_
  simp only [penv, Nat.reduceAdd, Nat.zero_add]
  repeat refine zz ?_
  refine o_call rfl rfl rfl (R := fun r w' => w = w') ?_ ?_
  · refine Run_intro Tryz.func70 (by unfold CallOk; kernel_rfl) rfl Tryz.ntmps70 (Nat.le_of_ble_eq_true rfl) ?_
    simp only [penv, Nat.reduceAdd, Nat.zero_add]
    repeat refine zz ?_
    refine W_loop (S := Unit) (fun _ => [(0, .slice A 0 c), (1, .int .i64 (0 : Nat)), (2, .func (.func f) ([] : List Value).toArray ca.toArray), (6, .int .i64 20), (7, .int .i64 0), (8, .int .i64 20)]) (fun _ w' => w' = w) (fun _ => 0) () ⟨rfl, rfl, rfl, rfl, rfl, rfl, trivial⟩ rfl ?_
    rintro _ w' rfl
    repeat refine zz ?_
    refine o_call rfl rfl rfl (R := fun r w2 => w' = w2) ?_ ?_
    · refine Run_intro Tryz.func89 (by unfold CallOk; kernel_rfl) rfl Tryz.ntmps89 (Nat.le_of_ble_eq_true rfl) ?_
      simp only [penv, Nat.reduceAdd, Nat.zero_add]
      repeat refine zz ?_
      refine W_loop (S := Unit) (fun _ => [(0, .slice A 0 c), (1, .int .i64 0), (2, .int .i64 (0 : Nat)), (8, .int .i64 1)]) (fun _ w2 => w2 = w') (fun _ => 0) () ⟨rfl, rfl, rfl, rfl, trivial⟩ rfl ?_
      rintro _ w2 rfl
      repeat refine zz ?_
      exact ret0n rfl rfl
    rintro _ _ rfl
    repeat refine zz ?_
    refine W_loop (S := Unit) (fun _ => [(1, .int .i64 (0 : Nat)), (6, .int .i64 20)]) (fun _ w2 => w2 = w') (fun _ => 0) () ⟨rfl, rfl, trivial⟩ rfl ?_
    rintro _ w'' rfl
    repeat refine zz ?_
    exact ret0n rfl rfl
  rintro _ _ rfl
  repeat refine zz ?_
  exact ret0n rfl rfl

set_option maxHeartbeats 1000000 in
theorem byField1_ok {w : World} {x y : Itm} {u1 u2 : Value} {f1 f2 : List Nat} {b : Nat} {field : Int} (hx : Sl intR w u1 x.vals f1) (hy : Sl intR w u2 y.vals f2) (hb : Blk w b 3 [.int .i64 field])
    (hf : 0 ≤ field ∧ field ≤ 2) (ix : isItem x = true) (iy : isItem y = true) :
    Run Tryz.prog 53 [.agg #[.int .i64 x.id, u1], .agg #[.int .i64 y.id, u2], .pointer (some ⟨b, 0, none⟩)] w (fun r w' => r = .int .i64 (fval field x - fval field y) ∧ Keep w w') := by
  have lx := isItem_len ix
  have ly := isItem_len iy
  have vx := areVals_at (isItem_vals ix) (i := field.toNat) (by omega)
  have vy := areVals_at (isItem_vals iy) (i := field.toNat) (by omega)
  rw [show ((field.toNat : Nat) : Int) = field by omega] at vx vy
  refine Run_intro Tryz.func53 (by unfold CallOk; kernel_rfl) rfl Tryz.ntmps53 (Nat.le_of_ble_eq_true rfl) ?_
  simp only [penv, Nat.reduceAdd, Nat.zero_add]
  repeat refine zz ?_
  refine o_boxS rfl rfl rfl ?_
  intro b1 w1 hal1
  have hb1 := hal1.blk
  have hk := hal1.kp
  replace hx := hx.keep hal1.kp
  replace hy := hy.keep hal1.kp
  replace hb := hb.keep hal1.kp
  repeat refine zz ?_
  refine o_boxS rfl rfl rfl ?_
  intro b2 w2 hal2
  have hb2 := hal2.blk
  replace hk := hk.keep hal2.kp
  replace hb1 := hb1.keep hal2.kp
  replace hx := hx.keep hal2.kp
  replace hy := hy.keep hal2.kp
  replace hb := hb.keep hal2.kp
  have hcb := hb.cell (i := 0) (v := .int .i64 field) rfl
  obtain ⟨A1, n1, c1, rfl, hn1⟩ := hx.split
  obtain ⟨A2, n2, c2, rfl, hn2⟩ := hy.split
  obtain ⟨hA1, hc1⟩ := hx.getI (i := field) (by omega) (by omega)
  obtain ⟨hA2, hc2⟩ := hy.getI (i := field) (by omega) (by omega)
  repeat refine zz ?_
  refine W_quiet (Keep w2) (by kernel_rfl) (by kernel_rfl) (Keep.drew _) ?_
  repeat refine qq ?_
  intro wd hkd 
  repeat refine zz ?_
  exact ret1 rfl rfl ⟨rfl, hk.keep hkd⟩

set_option maxHeartbeats 1000000 in
theorem byField_ok {w : World} {v : Value} {L : List Itm} {fp : List Nat} {field : Int} (hL : Sl itemR w v L fp) (hit : ∀ i : Nat, i < L.length → isItem (gi L (i : Int)) = true) (hln : L.length ≤ 16) (hf : 0 ≤ field ∧ field ≤ 2) :
    Run Tryz.prog 23 [v, .int .i64 field] w (fun r w' => Keep w w' ∧ ∃ f, Sl itemR w' r (sortP (fval field) L) f ∧ ∀ b, b ∈ f → w.heap.size ≤ b ∨ b ∈ fp) := by
  have hdL := hL.dom
  obtain ⟨A, n, c, rfl, hnx⟩ := hL.split
  refine Run_intro Tryz.func23 (by unfold CallOk; kernel_rfl) rfl Tryz.ntmps23 (Nat.le_of_ble_eq_true rfl) ?_
  simp only [penv, Nat.reduceAdd, Nat.zero_add]
  repeat refine zz ?_
  refine o_box rfl rfl rfl ?_
  intro b1 w1 hal
  have hb1 : Blk w1 b1 3 [.int .i64 field] := hal.blk
  have he1 := hal.b_eq
  have hz1 := hal.size
  have hk := hal.kp
  replace hL := hL.keep hk
  repeat refine zz ?_
  refine o_buildSlice rfl rfl rfl rfl rfl (by intro p hp; cases hp) (by omega) ?_
  intro bO wO halO
  have hkO := halO.kp
  have heO := halO.b_eq
  have ho : Own itemR wO w1.heap.size 45 (.slice (some ⟨bO, 0, none⟩) 0 0) [] [] := Own.made halO.blk (by simp) (Nat.zero_le _) (by omega)
  replace hk := hk.keep hkO
  replace hL := hL.keep hkO
  replace hb1 := hb1.keep hkO
  have hzO := halO.size
  obtain ⟨g, hsrc, hgs⟩ := hL.src
  repeat refine zz ?_
  refine o_append (R := itemR) rfl rfl rfl rfl rfl (by decide) ho hsrc hnx (fun b hb => ⟨by simp, fun hm => by have := (ho.lt hb).1; have := hdL b (hgs b hm); omega⟩) (by simp only [List.length_nil]; omega) (by simp only [List.length_nil]; omega) (by omega) ?_
  intro vN wN hoN hgN _
  have hkN : Keep w wN := hk.grown hgN (fun b hb => by have := (ho.lt hb).1; omega)
  have hb1N := hb1.grown hgN (by simp [Value.ownBlock]; omega)
  rw [List.nil_append, List.nil_append] at hoN
  obtain ⟨cells, hrows, h1⟩ := hoN.parts
  have hzN := hkN.size_le
  rcases h1 with ⟨rfl, h0⟩ | ⟨bo, cap, cl, rfl, hbo, hg, hle, hm, htk⟩
  · obtain rfl := List.eq_nil_of_length_eq_zero h0
    repeat refine zz ?_
    refine WL_pure rfl rfl (o_makeFunc rfl rfl) ?_
    repeat refine zz ?_
    refine o_call rfl rfl rfl sortStable0_ok ?_
    rintro _ _ rfl
    repeat refine zz ?_
    have e : sortP (fval field) ([] : List Itm) = [] := by unfold sortP sortN; rfl
    exact ret1 rfl rfl ⟨hkN, [], by rw [e]; exact Sl.nil_ _, fun b hb => by simp at hb⟩
  · have hsz : itemR.sz = 2 := rfl
    obtain ⟨hflat, hbeh⟩ := rows_flat hrows
    have hcur : cl = (iota 0 L.length).flatMap (cfv (aOf L) (uOf cells)) ++ cl.drop (L.length * 2) := by
      rw [← hflat, ← htk, hsz, List.take_append_drop]
    have hbB : Blk wN bo 45 ((iota 0 L.length).flatMap (cfv (aOf L) (uOf cells)) ++ cl.drop (L.length * 2)) := by
      rw [← hcur]; exact hg
    have hbog : bo ∉ g := fun hm => by have := hdL bo (hgs bo hm); omega
    have hb1o : b1 ≠ bo := by omega
    repeat refine zz ?_
    refine WL_pure rfl rfl (o_makeFunc rfl rfl) ?_
    repeat refine zz ?_
    have hir : ∀ i, i ∈ iota 0 L.length → 0 ≤ i ∧ i < L.length := fun i hi => by
      simp [iota] at hi
      obtain ⟨a, ha, rfl⟩ := hi
      omega
    have hno : ∀ i, i ∈ iota 0 L.length → isItem (gi L i) = true := fun i hi => by
      have := hir i hi
      have h2 := hit i.toNat (by omega)
      rwa [show ((i.toNat : Nat) : Int) = i by omega] at h2
    have hBe : ∀ (w1 : World) (i : Int), Beh L (uOf cells) g w1 → i ∈ iota 0 L.length → ∃ f, Sl intR w1 (uOf cells i) (gi L i).vals f := fun w1 i hw hi => by
      have := hir i hi
      obtain ⟨f, h2, _⟩ := hw i.toNat (by omega)
      rw [show ((i.toNat : Nat) : Int) = i by omega] at h2
      exact ⟨f, h2⟩
    refine o_call rfl rfl rfl (sortStable_ok (v := fun i => fval field (gi L i)) (I := fun w1 => Beh L (uOf cells) g w1 ∧ Blk w1 b1 3 [.int .i64 field]) (fun i hi => ⟨rfl, by obtain ⟨f, h2⟩ := hBe wN i hbeh hi; exact h2.oneCell⟩)
      (fun w1 w2 h k => ⟨h.1.keep k, h.2.keep k⟩) (fun w1 w2 cs h k => ⟨h.1.upd k hbog, h.2.upd k hb1o⟩)
      (fun w1 i j h hi hj => by obtain ⟨f1, h1⟩ := hBe w1 i h.1 hi; obtain ⟨f2, h2⟩ := hBe w1 j h.1 hj; exact byField1_ok h1 h2 h.2 hf (hno i hi) (hno j hj))
      (fun i hi => by
        have h3 := hno i hi
        have lx := isItem_len h3
        have vx := areVals_at (isItem_vals h3) (i := field.toNat) (by omega)
        rw [show ((field.toNat : Nat) : Int) = field by omega] at vx
        unfold fval; omega)
      hbB (by rw [iota_len]) (by omega) ⟨hbeh, hb1N⟩) ?_
    rintro _ w5 ⟨hb5, hw5, hbe5, _⟩
    repeat refine zz ?_
    have hpr : ∀ i, i ∈ sortP (fun i => fval field (gi L i)) (iota 0 L.length) → 0 ≤ i ∧ i < L.length := fun i hi => hir i (((sortP_perm _ _).mem_iff).1 hi)
    obtain ⟨f5, hr5, hf5⟩ := flat_rows hbe5 _ hpr
    rw [order_items] at hr5
    have hsl := Sl.ofBlk (c := cap) hb5 hr5 (fun j u hu => by
      rw [List.getElem?_append_left (List.getElem?_eq_some_iff.1 hu).1]; exact hu) (by rw [sortP_len]; omega) (by omega)
    rw [sortP_len] at hsl
    exact ret1 rfl rfl ⟨hw5.keep hkN (fun b hb => by simp at hb; omega), _, hsl, fun b hb => by
      rcases List.mem_cons.1 hb with rfl | hb
      · exact .inl (by omega)
      · exact .inr (hgs b (hf5 b hb))⟩
end Go.E

/-
  Contracts of the laws' helpers on pairs, wishes and nodes: comparisons and marks. Conditions: as stated.
-/
import Derived.Test.YtomkdoppjimhoaaLb
import Derived.Test.YtomkdoppjimhoaaBs
set_option linter.unusedVariables false
set_option linter.unusedSimpArgs false
namespace Go.E
open Go Go.RowKit Go.Proofs
attribute [local irreducible] W WL WD WE thenE inE retQ PureOp Keep Cell Cells Blk Sl Rows Own Src Fresh

/-- pairs, wishes and nodes with the numbers from k on -/
def markP (k : Int) : List (Int × Int) → List (Int × Int)
  | [] => []
  | _ :: r => (k, k + 1) :: markP (k + 2) r
theorem markP_len (k : Int) (xs : List (Int × Int)) : (markP k xs).length = xs.length := by
  induction xs generalizing k with
  | nil => rfl
  | cons x r ih => simp [markP, ih]
theorem markP_append (k : Int) (a b : List (Int × Int)) : markP k (a ++ b) = markP k a ++ markP (k + 2 * (a.length : Int)) b := by
  induction a generalizing k with
  | nil => simp [markP]
  | cons x r ih =>
    simp only [List.cons_append, markP, ih, List.length_cons]
    congr 3; omega
theorem gi_markP {k : Int} {xs : List (Int × Int)} {i : Nat} (h : i < xs.length) : gi (markP k xs) (i : Int) = (k + 2 * (i : Int), k + 2 * (i : Int) + 1) := by
  induction xs generalizing k i with
  | nil => simp at h
  | cons x r ih =>
    cases i with
    | zero => simp [markP, gi]
    | succ i =>
      have := ih (k := k + 2) (i := i) (by simpa using h)
      simp only [markP, gi, Int.toNat_natCast, List.getD_eq_getElem?_getD, List.getElem?_cons_succ] at this ⊢
      rw [this]
      congr 1 <;> omega
def wMark (k : Int) (w : Wsh) : Wsh := ⟨k, k + 1, k + 2, iota (k + 3) w.list.length, markP (k + 3 + w.list.length) w.pairs⟩
def wCnt (w : Wsh) : Nat := 3 + w.list.length + 2 * w.pairs.length
def nCnt : List Nod → Nat
  | [] => 0
  | x :: r => 1 + wCnt x.wish + nCnt r
def markN (k : Int) : List Nod → List Nod
  | [] => []
  | x :: r => ⟨k, wMark (k + 1) x.wish⟩ :: markN (k + 1 + wCnt x.wish) r
theorem nCnt_append (a b : List Nod) : nCnt (a ++ b) = nCnt a + nCnt b := by
  induction a with
  | nil => simp [nCnt]
  | cons x r ih => simp only [List.cons_append, nCnt, ih]; omega
theorem nCnt_take {L : List Nod} {k : Nat} (h : k < L.length) : nCnt (L.take (k + 1)) = nCnt (L.take k) + (1 + wCnt (gi L (k : Int)).wish) := by
  rw [take_gi h, nCnt_append]; simp [nCnt]
theorem nCnt_take_le (L : List Nod) (k : Nat) : nCnt (L.take k) ≤ nCnt L := by
  have := nCnt_append (L.take k) (L.drop k)
  rw [List.take_append_drop] at this; omega
theorem nCnt_le (L : List Nod) : nCnt L ≤ 4 * (L.length + totN L) := by
  induction L with
  | nil => simp [nCnt]
  | cons x r ih => simp only [nCnt, totN, List.length_cons, wCnt, totW]; omega
theorem markN_len (k : Int) (xs : List Nod) : (markN k xs).length = xs.length := by
  induction xs generalizing k with
  | nil => rfl
  | cons x r ih => simp [markN, ih]
theorem markN_append (k : Int) (a b : List Nod) : markN k (a ++ b) = markN k a ++ markN (k + (nCnt a : Int)) b := by
  induction a generalizing k with
  | nil => simp [markN, nCnt]
  | cons x r ih =>
    simp only [List.cons_append, markN, ih, nCnt]
    congr 3; omega

theorem eqPair_ok {w : World} (x y : Int × Int) :
    Run Try.prog 165 [.agg #[.int .i64 x.1, .int .i64 x.2], .agg #[.int .i64 y.1, .int .i64 y.2]] w (fun r w' => r = .bool (decide (x = y)) ∧ Keep w w') := by
  refine Run_intro Try.func165 (by unfold CallOk; kernel_rfl) rfl Try.ntmps165 (Nat.le_of_ble_eq_true rfl) ?_
  simp only [penv, Nat.reduceAdd, Nat.zero_add]
  repeat refine zz ?_
  refine o_boxS rfl rfl rfl ?_
  intro b1 w1 hal1
  have hb1 := hal1.blk
  have hk := hal1.kp
  repeat refine zz ?_
  refine o_boxS rfl rfl rfl ?_
  intro b2 w2 hal2
  have hb2 := hal2.blk
  replace hb1 := hb1.keep hal2.kp
  replace hk := hk.keep hal2.kp
  repeat refine zz ?_
  refine W_cond rfl (fun hc => ?_) (fun hc => ?_)
  · simp at hc
    repeat refine zz ?_
    refine ret1 rfl rfl ⟨?_, hk⟩
    have : x ≠ y := fun e => hc (by rw [e])
    simp [this]
  · simp at hc
    repeat refine zz ?_
    refine W_cond rfl (fun hd => ?_) (fun hd => ?_)
    · simp at hd
      repeat refine zz ?_
      refine ret1 rfl rfl ⟨?_, hk⟩
      have : x ≠ y := fun e => hd (by rw [e])
      simp [this]
    · simp at hd
      repeat refine zz ?_
      refine ret1 rfl rfl ⟨?_, hk⟩
      have : x = y := by cases x; cases y; simp_all
      simp [this]

theorem eqPairS_ok {w : World} {v u : Value} {xs ys : List (Int × Int)} {fp gp : List Nat} (hx : Sl pairR w v xs fp) (hy : Sl pairR w u ys gp) :
    Run Try.prog 137 [v, u] w (fun r w' => r = .bool (decide (xs = ys)) ∧ Keep w w') := by
  have hn := hx.le
  obtain ⟨A, n, c, rfl, hnx⟩ := hx.split
  obtain ⟨A2, m, c2, rfl, hmy⟩ := hy.split
  refine Run_intro Try.func137 (by unfold CallOk; kernel_rfl) rfl Try.ntmps137 (Nat.le_of_ble_eq_true rfl) ?_
  simp only [penv, Nat.reduceAdd, Nat.zero_add]
  repeat refine zz ?_
  refine W_cond rfl (fun hc => ?_) (fun hc => ?_)
  · repeat refine zz ?_
    simp at hc
    refine ret1 rfl rfl ⟨?_, Keep.refl _⟩
    have : xs ≠ ys := fun e => by subst e; omega
    simp [this]
  · simp at hc
    have hnm : n = m := by omega
    subst hnm
    repeat refine zz ?_
    refine W_loop (S := Nat) (fun k => [(0, .slice A n c), (1, .slice A2 n c2), (5, .int .i64 (k : Int))]) (fun k w' => Keep w w' ∧ k ≤ n ∧ ∀ i, i < k → gi xs (i : Int) = gi ys (i : Int)) (fun k => n - k) 0 ⟨rfl, rfl, rfl, trivial⟩ ⟨Keep.refl _, Nat.zero_le _, fun i hi => absurd hi (by omega)⟩ ?_
    rintro k w1 ⟨hk1, hk, hall⟩
    replace hx := hx.keep hk1
    replace hy := hy.keep hk1
    repeat refine zz ?_
    refine W_cond rfl (fun hc => ?_) (fun hc => ?_)
    · have hkn : k < n := by simp at hc; omega
      obtain ⟨hA, hck⟩ := pair_get hx (i := (k : Int)) (by omega) (by omega)
      obtain ⟨hA2, hck2⟩ := pair_get hy (i := (k : Int)) (by omega) (by omega)
      repeat refine zz ?_
      refine W_quiet (Keep w1) (by kernel_rfl) (by kernel_rfl) (Keep.drew _) ?_
      repeat refine qq ?_
      refine WQ_call rfl rfl rfl (fun w' hw' => (eqPair_ok _ _).kk hw') ?_
      repeat refine qq ?_
      intro w2 hk2 
      repeat refine zz ?_
      refine W_cond rfl (fun hd => ?_) (fun hd => ?_)
      · repeat refine zz ?_
        simp at hd
        refine ret1 rfl rfl ⟨?_, hk1.keep hk2⟩
        have : xs ≠ ys := fun e => by subst e; exact hd rfl
        simp [this]
      · simp at hd
        repeat refine zz ?_
        exact ⟨k + 1, ⟨rfl, rfl, rfl, trivial⟩, ⟨hk1.keep hk2, by omega, fun i hi => by
          rcases Nat.lt_or_ge i k with h1 | h1
          · exact hall i h1
          · have : i = k := by omega
            subst this; exact hd⟩, by omega⟩
    · simp at hc
      obtain rfl : k = n := by omega
      repeat refine zz ?_
      refine ret1 rfl rfl ⟨?_, hk1⟩
      have : xs = ys := gi_ext (by omega) (fun i hi => hall i (by omega))
      simp [this]

theorem eqWish_ok {w : World} {v1 u1 v2 u2 : Value} {x y : Wsh} {f1 g1 f2 g2 : List Nat} (hx : Sl intR w v1 x.list f1) (hx2 : Sl pairR w u1 x.pairs g1) (hy : Sl intR w v2 y.list f2) (hy2 : Sl pairR w u2 y.pairs g2) :
    Run Try.prog 107 [.agg #[.int .i64 x.kind, .int .i64 x.field, .int .i64 x.value, v1, u1], .agg #[.int .i64 y.kind, .int .i64 y.field, .int .i64 y.value, v2, u2]] w (fun r w' => r = .bool (decide (x = y)) ∧ Keep w w') := by
  refine Run_intro Try.func107 (by unfold CallOk; kernel_rfl) rfl Try.ntmps107 (Nat.le_of_ble_eq_true rfl) ?_
  simp only [penv, Nat.reduceAdd, Nat.zero_add]
  repeat refine zz ?_
  refine o_boxS rfl rfl rfl ?_
  intro b1 w1 hal1
  have hb1 := hal1.blk
  have hk := hal1.kp
  replace hx := hx.keep hal1.kp
  replace hx2 := hx2.keep hal1.kp
  replace hy := hy.keep hal1.kp
  replace hy2 := hy2.keep hal1.kp
  repeat refine zz ?_
  refine o_boxS rfl rfl rfl ?_
  intro b2 w2 hal2
  have hb2 := hal2.blk
  replace hx := hx.keep hal2.kp
  replace hx2 := hx2.keep hal2.kp
  replace hy := hy.keep hal2.kp
  replace hy2 := hy2.keep hal2.kp
  replace hb1 := hb1.keep hal2.kp
  replace hk := hk.keep hal2.kp
  repeat refine zz ?_
  refine W_cond rfl (fun hc => ?_) (fun hc => ?_)
  · simp at hc
    repeat refine zz ?_
    refine ret1 rfl rfl ⟨?_, hk⟩
    have : x ≠ y := fun e => hc (by rw [e])
    simp [this]
  simp at hc
  repeat refine zz ?_
  refine W_cond rfl (fun hc2 => ?_) (fun hc2 => ?_)
  · simp at hc2
    repeat refine zz ?_
    refine ret1 rfl rfl ⟨?_, hk⟩
    have : x ≠ y := fun e => hc2 (by rw [e])
    simp [this]
  simp at hc2
  repeat refine zz ?_
  refine W_cond rfl (fun hc3 => ?_) (fun hc3 => ?_)
  · simp at hc3
    repeat refine zz ?_
    refine ret1 rfl rfl ⟨?_, hk⟩
    have : x ≠ y := fun e => hc3 (by rw [e])
    simp [this]
  simp at hc3
  repeat refine zz ?_
  refine o_call rfl rfl rfl (eqIntS_ok hx hy) ?_
  rintro _ w3 ⟨rfl, hk3⟩
  replace hk := hk.keep hk3
  replace hb1 := hb1.keep hk3
  replace hb2 := hb2.keep hk3
  replace hx2 := hx2.keep hk3
  replace hy2 := hy2.keep hk3
  repeat refine zz ?_
  refine W_cond rfl (fun hd => ?_) (fun hd => ?_)
  · simp at hd
    repeat refine zz ?_
    refine ret1 rfl rfl ⟨?_, hk⟩
    have : x ≠ y := fun e => hd (by rw [e])
    simp [this]
  simp at hd
  repeat refine zz ?_
  refine o_call rfl rfl rfl (eqPairS_ok hx2 hy2) ?_
  rintro _ w4 ⟨rfl, hk4⟩
  replace hk := hk.keep hk4
  repeat refine zz ?_
  refine W_cond rfl (fun hd2 => ?_) (fun hd2 => ?_)
  · simp at hd2
    repeat refine zz ?_
    refine ret1 rfl rfl ⟨?_, hk⟩
    have : x ≠ y := fun e => hd2 (by rw [e])
    simp [this]
  simp at hd2
  repeat refine zz ?_
  refine ret1 rfl rfl ⟨?_, hk⟩
  have : x = y := by cases x; cases y; simp_all
  simp [this]

theorem eqNode_ok {w : World} {v1 u1 v2 u2 : Value} {x y : Nod} {f1 g1 f2 g2 : List Nat} (hx : Sl intR w v1 x.wish.list f1) (hx2 : Sl pairR w u1 x.wish.pairs g1) (hy : Sl intR w v2 y.wish.list f2) (hy2 : Sl pairR w u2 y.wish.pairs g2) :
    Run Try.prog 51 [.agg #[.int .i64 x.op, .int .i64 x.wish.kind, .int .i64 x.wish.field, .int .i64 x.wish.value, v1, u1], .agg #[.int .i64 y.op, .int .i64 y.wish.kind, .int .i64 y.wish.field, .int .i64 y.wish.value, v2, u2]] w (fun r w' => r = .bool (decide (x = y)) ∧ Keep w w') := by
  refine Run_intro Try.func51 (by unfold CallOk; kernel_rfl) rfl Try.ntmps51 (Nat.le_of_ble_eq_true rfl) ?_
  simp only [penv, Nat.reduceAdd, Nat.zero_add]
  repeat refine zz ?_
  refine o_boxS rfl rfl rfl ?_
  intro b1 w1 hal1
  have hb1 := hal1.blk
  have hk := hal1.kp
  replace hx := hx.keep hal1.kp
  replace hx2 := hx2.keep hal1.kp
  replace hy := hy.keep hal1.kp
  replace hy2 := hy2.keep hal1.kp
  repeat refine zz ?_
  refine o_boxS rfl rfl rfl ?_
  intro b2 w2 hal2
  have hb2 := hal2.blk
  replace hx := hx.keep hal2.kp
  replace hx2 := hx2.keep hal2.kp
  replace hy := hy.keep hal2.kp
  replace hy2 := hy2.keep hal2.kp
  replace hb1 := hb1.keep hal2.kp
  replace hk := hk.keep hal2.kp
  repeat refine zz ?_
  refine W_cond rfl (fun hc => ?_) (fun hc => ?_)
  · simp at hc
    repeat refine zz ?_
    refine ret1 rfl rfl ⟨?_, hk⟩
    have : x ≠ y := fun e => hc (by rw [e])
    simp [this]
  simp at hc
  repeat refine zz ?_
  refine o_call rfl rfl rfl (eqWish_ok hx hx2 hy hy2) ?_
  rintro _ w3 ⟨rfl, hk3⟩
  replace hk := hk.keep hk3
  repeat refine zz ?_
  refine W_cond rfl (fun hd => ?_) (fun hd => ?_)
  · simp at hd
    repeat refine zz ?_
    refine ret1 rfl rfl ⟨?_, hk⟩
    have : x ≠ y := fun e => hd (by rw [e])
    simp [this]
  simp at hd
  repeat refine zz ?_
  refine ret1 rfl rfl ⟨?_, hk⟩
  have : x = y := by cases x; cases y; simp_all
  simp [this]

theorem eqNodeS_ok {w : World} {v u : Value} {xs ys : List Nod} {fp gp : List Nat} (hx : Sl nodeR w v xs fp) (hy : Sl nodeR w u ys gp) :
    Run Try.prog 12 [v, u] w (fun r w' => r = .bool (decide (xs = ys)) ∧ Keep w w') := by
  have hn := hx.le
  obtain ⟨A, n, c, rfl, hnx⟩ := hx.split
  obtain ⟨A2, m, c2, rfl, hmy⟩ := hy.split
  refine Run_intro Try.func12 (by unfold CallOk; kernel_rfl) rfl Try.ntmps12 (Nat.le_of_ble_eq_true rfl) ?_
  simp only [penv, Nat.reduceAdd, Nat.zero_add]
  repeat refine zz ?_
  refine W_cond rfl (fun hc => ?_) (fun hc => ?_)
  · repeat refine zz ?_
    simp at hc
    refine ret1 rfl rfl ⟨?_, Keep.refl _⟩
    have : xs ≠ ys := fun e => by subst e; omega
    simp [this]
  · simp at hc
    have hnm : n = m := by omega
    subst hnm
    repeat refine zz ?_
    refine W_loop (S := Nat) (fun k => [(0, .slice A n c), (1, .slice A2 n c2), (5, .int .i64 (k : Int))]) (fun k w' => Keep w w' ∧ k ≤ n ∧ ∀ i, i < k → gi xs (i : Int) = gi ys (i : Int)) (fun k => n - k) 0 ⟨rfl, rfl, rfl, trivial⟩ ⟨Keep.refl _, Nat.zero_le _, fun i hi => absurd hi (by omega)⟩ ?_
    rintro k w1 ⟨hk1, hk, hall⟩
    replace hx := hx.keep hk1
    replace hy := hy.keep hk1
    repeat refine zz ?_
    refine W_cond rfl (fun hc => ?_) (fun hc => ?_)
    · have hkn : k < n := by simp at hc; omega
      obtain ⟨hA, va, ua, fa1, ga1, hck, hva, hua, _⟩ := node_get hx (i := (k : Int)) (by omega) (by omega)
      obtain ⟨hA2, vb, ub, fb1, gb1, hck2, hvb, hub, _⟩ := node_get hy (i := (k : Int)) (by omega) (by omega)
      repeat refine zz ?_
      refine W_quiet (Keep w1) (by kernel_rfl) (by kernel_rfl) (Keep.drew _) ?_
      repeat refine qq ?_
      refine WQ_call rfl rfl rfl (fun w' hw' => (eqNode_ok (hva.keep hw') (hua.keep hw') (hvb.keep hw') (hub.keep hw')).kk hw') ?_
      repeat refine qq ?_
      intro w2 hk2 
      repeat refine zz ?_
      refine W_cond rfl (fun hd => ?_) (fun hd => ?_)
      · repeat refine zz ?_
        simp at hd
        refine ret1 rfl rfl ⟨?_, hk1.keep hk2⟩
        have : xs ≠ ys := fun e => by subst e; exact hd rfl
        simp [this]
      · simp at hd
        repeat refine zz ?_
        exact ⟨k + 1, ⟨rfl, rfl, rfl, trivial⟩, ⟨hk1.keep hk2, by omega, fun i hi => by
          rcases Nat.lt_or_ge i k with h1 | h1
          · exact hall i h1
          · have : i = k := by omega
            subst this; exact hd⟩, by omega⟩
    · simp at hc
      obtain rfl : k = n := by omega
      repeat refine zz ?_
      refine ret1 rfl rfl ⟨?_, hk1⟩
      have : xs = ys := gi_ext (by omega) (fun i hi => hall i (by omega))
      simp [this]

theorem markPairS_ok {w : World} {v : Value} {xs : List (Int × Int)} {fp : List Nat} {B : Nat} {k : Int} (hx : Sl pairR w v xs fp) (hf : Fresh B w fp) (hk0 : 0 ≤ k) (hk1 : k + 2 * (xs.length : Int) ≤ 4611686018427387904) :
    Run Try.prog 52 [v, .int .i64 k] w (fun r w' => r = .int .i64 (k + 2 * (xs.length : Int)) ∧ Sl pairR w' v (markP k xs) fp ∧ Fresh B w' fp ∧ Wrs w w' fp) := by
  have hn := hx.le
  obtain ⟨A, n, c, rfl, hnx⟩ := hx.split
  refine Run_intro Try.func52 (by unfold CallOk; kernel_rfl) rfl Try.ntmps52 (Nat.le_of_ble_eq_true rfl) ?_
  simp only [penv, Nat.reduceAdd, Nat.zero_add]
  repeat refine zz ?_
  refine W_loop (S := Nat) (fun s => [(0, .slice A n c), (1, .int .i64 (k + 2 * (s : Int))), (5, .int .i64 (s : Int))]) (fun s w' => s ≤ n ∧ Sl pairR w' (.slice A n c) (markP k (xs.take s) ++ xs.drop s) fp ∧ Fresh B w' fp ∧ Wrs w w' fp) (fun s => n - s) 0 ⟨rfl, find_int rfl (by omega), rfl, trivial⟩ ⟨Nat.zero_le _, by simpa [markP] using hx, hf, Wrs.refl _⟩ ?_
  rintro i w1 ⟨hi, hys, hf1, hw1⟩
  repeat refine zz ?_
  refine W_cond rfl (fun hc => ?_) (fun hc => ?_)
  · have hin : i < n := by simp at hc; omega
    have htake := take_gi (xs := xs) (k := i) (by omega)
    have htl : (xs.take i).length = i := by rw [List.length_take]; omega
    have hl : (markP k (xs.take i)).length = i := by rw [markP_len, htl]
    have hlen : i < (markP k (xs.take i) ++ xs.drop i).length := by rw [List.length_append, hl, List.length_drop]; omega
    rw [← set_self hlen] at hys
    obtain ⟨hA, hcell⟩ := pair_get hys (i := (i : Int)) (by omega) (by omega)
    have hblk := hys.blocks (by decide) (by omega)
    have hmem : ∀ j ad, fa (ea A 2 (i : Int)) j = some ad → ad.block ∈ fp := fun j ad had => by
      obtain ⟨a1, h1, h2⟩ := fa_block had
      obtain ⟨a2, h3, h4⟩ := ea_block h1
      rw [h2, h4]; exact hblk a2 h3
    repeat refine zz ?_
    refine o_storeC rfl rfl (hcell.at_ rfl) rfl rfl hf1 (hmem 0) ?_
    intro w2 hp
    replace hys := hys.putS hf1.nd (by decide) hin (j := 0) (x' := (k + 2 * (i : Int), (gi (markP k (xs.take i) ++ xs.drop i) (i : Int)).2)) (by decide) (fun ck fk hr => ⟨by rw [hr.1]; rfl, hr.2⟩) rfl hp
    replace hf1 := hf1.put hp
    replace hw1 := hw1.trans (hp.wrs_of (hmem 0))
    obtain ⟨hA, hcell⟩ := pair_get hys (i := (i : Int)) (by omega) (by omega)
    repeat refine zz ?_
    refine o_storeC rfl rfl (hcell.at_ rfl) rfl rfl hf1 (hmem 1) ?_
    intro w3 hp3
    replace hys := hys.putS hf1.nd (by decide) hin (j := 1) (x' := (k + 2 * (i : Int), k + 2 * (i : Int) + 1)) (by decide) (fun ck fk hr => ⟨by rw [hr.1]; rfl, hr.2⟩) rfl hp3
    replace hf1 := hf1.put hp3
    replace hw1 := hw1.trans (hp3.wrs_of (hmem 1))
    repeat refine zz ?_
    refine ⟨i + 1, ⟨rfl, find_int rfl (by omega), rfl, trivial⟩, ⟨by omega, ?_, hf1, hw1⟩, by omega⟩
    have e1 : (markP k (xs.take i) ++ xs.drop i).set i (k + 2 * (i : Int), k + 2 * (i : Int) + 1) = markP k (xs.take (i + 1)) ++ xs.drop (i + 1) := by
      rw [htake, markP_append, List.set_append_right _ _ (by omega), hl, Nat.sub_self, drop_gi (show i < xs.length by omega), List.set_cons_zero, htl]
      simp [markP]
    rw [← e1]; exact hys
  · simp at hc
    obtain rfl : i = n := by omega
    have hti : xs.take i = xs := List.take_of_length_le (by omega)
    have hdi : xs.drop i = [] := List.drop_of_length_le (by omega)
    rw [hti, hdi, List.append_nil] at hys
    repeat refine zz ?_
    exact ret1 rfl rfl ⟨by rw [hnx], hys, hf1, hw1⟩

set_option maxHeartbeats 1000000 in
theorem markNodeS_ok {w : World} {v : Value} {xs : List Nod} {fp : List Nat} {B : Nat} {k : Int} (hx : Sl nodeR w v xs fp) (hf : Fresh B w fp) (hk0 : 0 ≤ k) (hk1 : k + (nCnt xs : Int) ≤ 4611686018427387904) :
    Run Try.prog 13 [v, .int .i64 k] w (fun r w' => r = .int .i64 (k + (nCnt xs : Int)) ∧ Sl nodeR w' v (markN k xs) fp ∧ Fresh B w' fp ∧ Wrs w w' fp) := by
  have hn := hx.le
  obtain ⟨A, n, c, rfl, hnx⟩ := hx.split
  refine Run_intro Try.func13 (by unfold CallOk; kernel_rfl) rfl Try.ntmps13 (Nat.le_of_ble_eq_true rfl) ?_
  simp only [penv, Nat.reduceAdd, Nat.zero_add]
  repeat refine zz ?_
  refine W_loop (S := Nat) (fun s => [(0, .slice A n c), (1, .int .i64 (k + (nCnt (xs.take s) : Int))), (5, .int .i64 (s : Int))]) (fun s w' => s ≤ n ∧ Sl nodeR w' (.slice A n c) (markN k (xs.take s) ++ xs.drop s) fp ∧ Fresh B w' fp ∧ Wrs w w' fp) (fun s => n - s) 0 ⟨rfl, find_int rfl (by simp [nCnt]), rfl, trivial⟩ ⟨Nat.zero_le _, by simpa [markN] using hx, hf, Wrs.refl _⟩ ?_
  rintro i w1 ⟨hi, hys, hf1, hw1⟩
  repeat refine zz ?_
  refine W_cond rfl (fun hc => ?_) (fun hc => ?_)
  · have hin : i < n := by simp at hc; omega
    have htake := take_gi (xs := xs) (k := i) (by omega)
    have htl : (xs.take i).length = i := by rw [List.length_take]; omega
    have hl : (markN k (xs.take i)).length = i := by rw [markN_len, htl]
    have hlen : i < (markN k (xs.take i) ++ xs.drop i).length := by rw [List.length_append, hl, List.length_drop]; omega
    have hct := nCnt_take (L := xs) (k := i) (by omega)
    have hcl := nCnt_take_le xs (i + 1)
    have hel : gi (markN k (xs.take i) ++ xs.drop i) (i : Int) = gi xs (i : Int) := by
      rw [gi_lt hlen, gi_lt (show i < xs.length by omega), List.getElem_append_right (by omega)]
      simp [hl]
    have hel2 : ∀ x, gi ((markN k (xs.take i) ++ xs.drop i).set i x) (i : Int) = x := fun x => by
      rw [gi_lt (by rw [List.length_set]; exact hlen)]; simp
    rw [← set_self hlen, hel] at hys
    have hblk := hys.blocks (by decide) (by omega)
    have hmem : ∀ j ad, fa (ea A 6 (i : Int)) j = some ad → ad.block ∈ fp := fun j ad had => by
      obtain ⟨a1, h1, h2⟩ := fa_block had
      obtain ⟨a2, h3, h4⟩ := ea_block h1
      rw [h2, h4]; exact hblk a2 h3
    have hmem2 : ∀ a b ad, fa (fa (ea A 6 (i : Int)) a) b = some ad → ad.block ∈ fp := fun a b ad had => by rw [fa_fa] at had; exact hmem _ ad had
    generalize hW : (gi xs (i : Int)) = nd at hys hct
    have hwc : wCnt nd.wish = 3 + nd.wish.list.length + 2 * nd.wish.pairs.length := rfl
    generalize hK : k + (nCnt (xs.take i) : Int) = K at *
    have hK0 : 0 ≤ K := by omega
    obtain ⟨hA, v1, u1, f1, f2, hcell, _⟩ := node_get hys (i := (i : Int)) (by omega) (by omega)
    repeat refine zz ?_
    refine o_storeC rfl rfl (hcell.at_ rfl) rfl rfl hf1 (hmem 0) ?_
    intro w2 hp
    replace hys := hys.putS hf1.nd (by decide) hin (j := 0) (x' := ⟨K, nd.wish⟩) (by decide) (fun ck fk hr => by obtain ⟨c0, rfl, v0, u0, fa0, fb0, rfl, rfl, h1, h2⟩ := hr; exact ⟨_, rfl, v0, u0, fa0, fb0, rfl, rfl, h1, h2⟩) rfl hp
    replace hf1 := hf1.put hp
    replace hw1 := hw1.trans (hp.wrs_of (hmem 0))
    obtain ⟨hA, v1, u1, f1, f2, hcell, _⟩ := node_get hys (i := (i : Int)) (by omega) (by omega)
    repeat refine zz ?_
    refine o_storeC rfl rfl (hcell.at2 (i := 1) (j := 0) rfl) rfl (by rfl) hf1 (hmem2 _ _) ?_
    intro w3 hp
    replace hys := hys.putS hf1.nd (by decide) hin (j := 1) (x' := ⟨K, ⟨K + 1, nd.wish.field, nd.wish.value, nd.wish.list, nd.wish.pairs⟩⟩) (by decide) (fun ck fk hr => by obtain ⟨c0, rfl, v0, u0, fa0, fb0, rfl, rfl, h1, h2⟩ := hr; exact ⟨_, rfl, v0, u0, fa0, fb0, rfl, rfl, h1, h2⟩) (fa_fa _ _ _) hp
    replace hf1 := hf1.put hp
    replace hw1 := hw1.trans (hp.wrs_of (hmem2 _ _))
    obtain ⟨hA, v1, u1, f1, f2, hcell, _⟩ := node_get hys (i := (i : Int)) (by omega) (by omega)
    repeat refine zz ?_
    refine o_storeC rfl rfl (hcell.at2 (i := 1) (j := 1) rfl) rfl (by rfl) hf1 (hmem2 _ _) ?_
    intro w4 hp
    replace hys := hys.putS hf1.nd (by decide) hin (j := 2) (x' := ⟨K, ⟨K + 1, K + 1 + 1, nd.wish.value, nd.wish.list, nd.wish.pairs⟩⟩) (by decide) (fun ck fk hr => by obtain ⟨c0, rfl, v0, u0, fa0, fb0, rfl, rfl, h1, h2⟩ := hr; exact ⟨_, rfl, v0, u0, fa0, fb0, rfl, rfl, h1, h2⟩) (fa_fa _ _ _) hp
    replace hf1 := hf1.put hp
    replace hw1 := hw1.trans (hp.wrs_of (hmem2 _ _))
    obtain ⟨hA, v1, u1, f1, f2, hcell, _⟩ := node_get hys (i := (i : Int)) (by omega) (by omega)
    repeat refine zz ?_
    refine o_storeC rfl rfl (hcell.at2 (i := 1) (j := 2) rfl) rfl (by rfl) hf1 (hmem2 _ _) ?_
    intro w5 hp
    replace hys := hys.putS hf1.nd (by decide) hin (j := 3) (x' := ⟨K, ⟨K + 1, K + 1 + 1, K + 1 + 1 + 1, nd.wish.list, nd.wish.pairs⟩⟩) (by decide) (fun ck fk hr => by obtain ⟨c0, rfl, v0, u0, fa0, fb0, rfl, rfl, h1, h2⟩ := hr; exact ⟨_, rfl, v0, u0, fa0, fb0, rfl, rfl, h1, h2⟩) (fa_fa _ _ _) hp
    replace hf1 := hf1.put hp
    replace hw1 := hw1.trans (hp.wrs_of (hmem2 _ _))
    obtain ⟨ck, fk, hnk, hsub, ⟨c0, rfl, v0, u0, g1, g2, rfl, rfl, hv0, hu0⟩, hcells, hA', back⟩ := hys.focusS hf1.nd (by decide) hin
    dsimp only at hv0 hu0
    obtain ⟨hn1, hn2, hn12⟩ := List.nodup_append.1 hnk
    repeat refine zz ?_
    refine o_call rfl rfl rfl (markIntS_ok hv0 (hf1.sub hn1 fun b hb => hsub b (List.mem_append.2 (.inl hb))) (by omega) (by omega)) ?_
    rintro _ w6 ⟨rfl, hv6, hf6, hw6⟩
    have hu6 := hu0.wrs hw6 (fun b hb hb' => hn12 b hb' b hb rfl)
    replace hys := back w6 ⟨K, ⟨K + 1, K + 1 + 1, K + 1 + 1 + 1, iota (K + 1 + 1 + 1 + 1) nd.wish.list.length, nd.wish.pairs⟩⟩ (hw6.sub fun b hb => List.mem_append.2 (.inl hb)) ⟨_, rfl, v0, u0, g1, g2, rfl, rfl, hv6, hu6⟩
    replace hf1 := hf1.join hw6 hf6
    replace hw1 := hw1.trans (hw6.sub fun b hb => hsub b (List.mem_append.2 (.inl hb)))
    obtain ⟨ck, fk, hnk, hsub, ⟨c0, rfl, v0, u0, g1, g2, rfl, rfl, hv0, hu0⟩, hcells, hA', back⟩ := hys.focusS hf1.nd (by decide) hin
    dsimp only at hv0 hu0
    obtain ⟨hn1, hn2, hn12⟩ := List.nodup_append.1 hnk
    repeat refine zz ?_
    refine o_call rfl rfl rfl (markPairS_ok hu0 (hf1.sub hn2 fun b hb => hsub b (List.mem_append.2 (.inr hb))) (by omega) (by omega)) ?_
    rintro _ w7 ⟨rfl, hu7, hf7, hw7⟩
    have hv7 := hv0.wrs hw7 (fun b hb hb' => hn12 b hb b hb' rfl)
    replace hys := back w7 ⟨K, ⟨K + 1, K + 1 + 1, K + 1 + 1 + 1, iota (K + 1 + 1 + 1 + 1) nd.wish.list.length, markP (K + 1 + 1 + 1 + 1 + nd.wish.list.length) nd.wish.pairs⟩⟩ (hw7.sub fun b hb => List.mem_append.2 (.inr hb)) ⟨_, rfl, v0, u0, g1, g2, rfl, rfl, hv7, hu7⟩
    replace hf1 := hf1.join hw7 hf7
    replace hw1 := hw1.trans (hw7.sub fun b hb => hsub b (List.mem_append.2 (.inr hb)))
    repeat refine zz ?_
    refine ⟨i + 1, ⟨rfl, find_int rfl (by omega), rfl, trivial⟩, ⟨by omega, ?_, hf1, hw1⟩, by omega⟩
    have e1 : (markN k (xs.take i) ++ xs.drop i).set i ⟨K, ⟨K + 1, K + 1 + 1, K + 1 + 1 + 1, iota (K + 1 + 1 + 1 + 1) nd.wish.list.length, markP (K + 1 + 1 + 1 + 1 + nd.wish.list.length) nd.wish.pairs⟩⟩ = markN k (xs.take (i + 1)) ++ xs.drop (i + 1) := by
      rw [htake, markN_append, List.set_append_right _ _ (by omega), hl, Nat.sub_self, drop_gi (show i < xs.length by omega), List.set_cons_zero, hW, hK]
      simp only [markN, wMark, List.append_assoc, List.cons_append, List.nil_append]
      rw [show K + 1 + 2 = K + 1 + 1 + 1 by omega, show K + 1 + 3 = K + 1 + 1 + 1 + 1 by omega]
    rw [← e1]; exact hys
  · simp at hc
    obtain rfl : i = n := by omega
    have hti : xs.take i = xs := List.take_of_length_le (by omega)
    have hdi : xs.drop i = [] := List.drop_of_length_le (by omega)
    rw [hti, hdi, List.append_nil] at hys
    rw [hti]
    repeat refine zz ?_
    exact ret1 rfl rfl ⟨rfl, hys, hf1, hw1⟩
end Go.E

/-
  Contracts of the laws' helpers on lists of rewritings: comparisons, marks, looking for marks. Conditions: as stated.
-/
import Derived.Test.YtomkdoppjimhoaaNc
import Derived.Test.YtomkdoppjimhoaaNh
set_option linter.unusedVariables false
set_option linter.unusedSimpArgs false
namespace Go.E
open Go Go.RowKit Go.Proofs
theorem rew_get {w : World} {A : Option Addr} {n c : Nat} {L : List Rwt} {fp : List Nat} (h : Sl rewR w (.slice A n c) L fp) {i : Int} (h0 : 0 ≤ i) (hi : i < n) :
    A.isSome = true ∧ ∃ v f, Cells w (ea A 3 i) [.int .i64 (gi L i).rule, .int .i64 (gi L i).place, v] ∧ Sl nodeR w v (gi L i).after f ∧ (∀ b, b ∈ f → b ∈ fp) := by
  obtain ⟨hA, cs, f, ⟨v, rfl, hv⟩, hsub, hc⟩ := h.get h0 hi
  exact ⟨hA, v, f, hc, hv, hsub⟩
def rCnt : List Rwt → Nat
  | [] => 0
  | x :: r => 2 + nCnt x.after + rCnt r
def markR (k : Int) : List Rwt → List Rwt
  | [] => []
  | x :: r => ⟨k, k + 1, markN (k + 2) x.after⟩ :: markR (k + 2 + nCnt x.after) r
theorem rCnt_append (a b : List Rwt) : rCnt (a ++ b) = rCnt a + rCnt b := by
  induction a with
  | nil => simp [rCnt]
  | cons x r ih => simp only [List.cons_append, rCnt, ih]; omega
theorem rCnt_take {L : List Rwt} {k : Nat} (h : k < L.length) : rCnt (L.take (k + 1)) = rCnt (L.take k) + (2 + nCnt (gi L (k : Int)).after) := by
  rw [take_gi h, rCnt_append]; simp [rCnt]
theorem rCnt_take_le (L : List Rwt) (k : Nat) : rCnt (L.take k) ≤ rCnt L := by
  have := rCnt_append (L.take k) (L.drop k)
  rw [List.take_append_drop] at this; omega
theorem markR_len (k : Int) (xs : List Rwt) : (markR k xs).length = xs.length := by
  induction xs generalizing k with
  | nil => rfl
  | cons x r ih => simp [markR, ih]
theorem markR_append (k : Int) (a b : List Rwt) : markR k (a ++ b) = markR k a ++ markR (k + (rCnt a : Int)) b := by
  induction a generalizing k with
  | nil => simp [markR, rCnt]
  | cons x r ih =>
    simp only [List.cons_append, markR, ih, rCnt]
    congr 3; omega
theorem gi_markR {k : Int} {xs : List Rwt} {i : Nat} (h : i < xs.length) : gi (markR k xs) (i : Int) = ⟨k + (rCnt (xs.take i) : Int), k + (rCnt (xs.take i) : Int) + 1, markN (k + (rCnt (xs.take i) : Int) + 2) (gi xs (i : Int)).after⟩ := by
  induction xs generalizing k i with
  | nil => simp at h
  | cons x r ih =>
    cases i with
    | zero => simp [markR, gi, rCnt]
    | succ i =>
      have := ih (k := k + 2 + nCnt x.after) (i := i) (by simpa using h)
      simp only [markR, gi, Int.toNat_natCast, List.getD_eq_getElem?_getD, List.getElem?_cons_succ, List.take_succ_cons, rCnt] at this ⊢
      rw [this]
      have e : k + 2 + (nCnt x.after : Int) + (rCnt (r.take i) : Int) = k + ((2 + nCnt x.after + rCnt (r.take i) : Nat) : Int) := by omega
      rw [e]
attribute [local irreducible] W WL WD WE thenE inE retQ PureOp Keep Cell Cells Blk Sl Rows Own Src Fresh
attribute [local irreducible] markN nCnt

set_option maxHeartbeats 1000000 in
theorem eqRewriting_ok {w : World} {v u : Value} {x y : Rwt} {f g : List Nat} (hx : Sl nodeR w v x.after f) (hy : Sl nodeR w u y.after g) :
    Run Try.prog 54 [.agg #[.int .i64 x.rule, .int .i64 x.place, v], .agg #[.int .i64 y.rule, .int .i64 y.place, u]] w (fun r w' => r = .bool (decide (x = y)) ∧ Keep w w') := by
  obtain ⟨A, n, c, rfl, hnx⟩ := hx.split
  obtain ⟨A2, m, c2, rfl, hmy⟩ := hy.split
  refine Run_intro Try.func54 (by unfold CallOk; kernel_rfl) rfl Try.ntmps54 (Nat.le_of_ble_eq_true rfl) ?_
  simp only [penv, Nat.reduceAdd, Nat.zero_add]
  repeat refine zz ?_
  refine o_boxS rfl rfl rfl ?_
  intro b1 w1 hal1
  have hb1 := hal1.blk
  have hk := hal1.kp
  replace hx := hx.keep hal1.kp
  replace hy := hy.keep hal1.kp
  repeat refine zz ?_
  refine o_boxS rfl rfl rfl ?_
  intro b2 w2 hal2
  have hb2 := hal2.blk
  replace hb1 := hb1.keep hal2.kp
  replace hk := hk.keep hal2.kp
  replace hx := hx.keep hal2.kp
  replace hy := hy.keep hal2.kp
  repeat refine zz ?_
  refine W_cond rfl (fun hc => ?_) (fun hc => ?_)
  · simp at hc
    repeat refine zz ?_
    exact ret1 rfl rfl ⟨by rw [decide_eq_false (fun e => hc (by rw [e]))], hk⟩
  simp at hc
  repeat refine zz ?_
  refine W_cond rfl (fun hd => ?_) (fun hd => ?_)
  · simp at hd
    repeat refine zz ?_
    exact ret1 rfl rfl ⟨by rw [decide_eq_false (fun e => hd (by rw [e]))], hk⟩
  simp at hd
  repeat refine zz ?_
  refine o_call rfl rfl rfl (eqNodeS_ok hx hy) ?_
  rintro _ w3 ⟨rfl, hk3⟩
  replace hk := hk.keep hk3
  repeat refine zz ?_
  refine W_cond rfl (fun he => ?_) (fun he => ?_)
  · simp at he
    repeat refine zz ?_
    exact ret1 rfl rfl ⟨by rw [decide_eq_false (fun e => he (by rw [e]))], hk⟩
  simp at he
  repeat refine zz ?_
  exact ret1 rfl rfl ⟨by rw [decide_eq_true]; cases x; cases y; simp_all, hk⟩

set_option maxHeartbeats 1000000 in
theorem eqRewritingS_ok {w : World} {v u : Value} {xs ys : List Rwt} {fp gp : List Nat} (hx : Sl rewR w v xs fp) (hy : Sl rewR w u ys gp) :
    Run Try.prog 17 [v, u] w (fun r w' => r = .bool (decide (xs = ys)) ∧ Keep w w') := by
  have hn := hx.le
  obtain ⟨A, n, c, rfl, hnx⟩ := hx.split
  obtain ⟨A2, m, c2, rfl, hmy⟩ := hy.split
  refine Run_intro Try.func17 (by unfold CallOk; kernel_rfl) rfl Try.ntmps17 (Nat.le_of_ble_eq_true rfl) ?_
  simp only [penv, Nat.reduceAdd, Nat.zero_add]
  repeat refine zz ?_
  refine W_cond rfl (fun hc => ?_) (fun hc => ?_)
  · repeat refine zz ?_
    simp at hc
    refine ret1 rfl rfl ⟨?_, Keep.refl _⟩
    have : xs ≠ ys := fun e => by subst e; omega
    simp [this]
  · simp at hc
    have hnm : n = m := by omega
    subst hnm
    repeat refine zz ?_
    refine W_loop (S := Nat) (fun k => [(0, .slice A n c), (1, .slice A2 n c2), (5, .int .i64 (k : Int))]) (fun k w' => Keep w w' ∧ k ≤ n ∧ ∀ i, i < k → gi xs (i : Int) = gi ys (i : Int)) (fun k => n - k) 0 ⟨rfl, rfl, rfl, trivial⟩ ⟨Keep.refl _, Nat.zero_le _, fun i hi => absurd hi (by omega)⟩ ?_
    rintro k w1 ⟨hk1, hk, hall⟩
    replace hx := hx.keep hk1
    replace hy := hy.keep hk1
    repeat refine zz ?_
    refine W_cond rfl (fun hc => ?_) (fun hc => ?_)
    · have hkn : k < n := by simp at hc; omega
      obtain ⟨hA, v1, f1, hck, hv1, _⟩ := rew_get hx (i := (k : Int)) (by omega) (by omega)
      obtain ⟨hA2, v2, f2, hck2, hv2, _⟩ := rew_get hy (i := (k : Int)) (by omega) (by omega)
      repeat refine zz ?_
      refine W_quiet (Keep w1) (by kernel_rfl) (by kernel_rfl) (Keep.drew _) ?_
      repeat refine qq ?_
      refine WQ_call rfl rfl rfl (fun w' hw' => (eqRewriting_ok (hv1.keep hw') (hv2.keep hw')).kk hw') ?_
      repeat refine qq ?_
      intro w2 hk2 
      repeat refine zz ?_
      refine W_cond rfl (fun hd => ?_) (fun hd => ?_)
      · repeat refine zz ?_
        simp at hd
        refine ret1 rfl rfl ⟨?_, hk1.keep hk2⟩
        have : xs ≠ ys := fun e => by subst e; exact hd rfl
        simp [this]
      · simp at hd
        repeat refine zz ?_
        exact ⟨k + 1, ⟨rfl, rfl, rfl, trivial⟩, ⟨hk1.keep hk2, by omega, fun i hi => by
          rcases Nat.lt_or_ge i k with h1 | h1
          · exact hall i h1
          · have : i = k := by omega
            subst this; exact hd⟩, by omega⟩
    · simp at hc
      obtain rfl : k = n := by omega
      repeat refine zz ?_
      refine ret1 rfl rfl ⟨?_, hk1⟩
      have : xs = ys := gi_ext (by omega) (fun i hi => hall i (by omega))
      simp [this]

set_option maxHeartbeats 1000000 in
theorem markRewritingS_ok {w : World} {v : Value} {xs : List Rwt} {fp : List Nat} {B : Nat} {k : Int} (hx : Sl rewR w v xs fp) (hf : Fresh B w fp) (hk0 : 0 ≤ k) (hk1 : k + (rCnt xs : Int) ≤ 4611686018427387904) :
    Run Try.prog 18 [v, .int .i64 k] w (fun r w' => r = .int .i64 (k + (rCnt xs : Int)) ∧ Sl rewR w' v (markR k xs) fp ∧ Fresh B w' fp ∧ Wrs w w' fp) := by
  have hn := hx.le
  obtain ⟨A, n, c, rfl, hnx⟩ := hx.split
  refine Run_intro Try.func18 (by unfold CallOk; kernel_rfl) rfl Try.ntmps18 (Nat.le_of_ble_eq_true rfl) ?_
  simp only [penv, Nat.reduceAdd, Nat.zero_add]
  repeat refine zz ?_
  refine W_loop (S := Nat) (fun s => [(0, .slice A n c), (1, .int .i64 (k + (rCnt (xs.take s) : Int))), (5, .int .i64 (s : Int))]) (fun s w' => s ≤ n ∧ Sl rewR w' (.slice A n c) (markR k (xs.take s) ++ xs.drop s) fp ∧ Fresh B w' fp ∧ Wrs w w' fp) (fun s => n - s) 0 ⟨rfl, find_int rfl (by simp [rCnt]), rfl, trivial⟩ ⟨Nat.zero_le _, by simpa [markR] using hx, hf, Wrs.refl _⟩ ?_
  rintro i w1 ⟨hi, hys, hf1, hw1⟩
  repeat refine zz ?_
  refine W_cond rfl (fun hc => ?_) (fun hc => ?_)
  · have hin : i < n := by simp at hc; omega
    have htake := take_gi (xs := xs) (k := i) (by omega)
    have htl : (xs.take i).length = i := by rw [List.length_take]; omega
    have hl : (markR k (xs.take i)).length = i := by rw [markR_len, htl]
    have hlen : i < (markR k (xs.take i) ++ xs.drop i).length := by rw [List.length_append, hl, List.length_drop]; omega
    have hct := rCnt_take (L := xs) (k := i) (by omega)
    have hcl := rCnt_take_le xs (i + 1)
    have hel : gi (markR k (xs.take i) ++ xs.drop i) (i : Int) = gi xs (i : Int) := by
      rw [gi_lt hlen, gi_lt (show i < xs.length by omega), List.getElem_append_right (by omega)]
      simp [hl]
    rw [← set_self hlen, hel] at hys
    have hblk := hys.blocks (by decide) (by omega)
    have hmem : ∀ j ad, fa (ea A 3 (i : Int)) j = some ad → ad.block ∈ fp := fun j ad had => by
      obtain ⟨a1, h1, h2⟩ := fa_block had
      obtain ⟨a2, h3, h4⟩ := ea_block h1
      rw [h2, h4]; exact hblk a2 h3
    generalize hW : (gi xs (i : Int)) = nd at hys hct
    generalize hK : k + (rCnt (xs.take i) : Int) = K at *
    have hK0 : 0 ≤ K := by omega
    have hel2 : ∀ x, gi ((markR k (xs.take i) ++ xs.drop i).set i x) (i : Int) = x := fun x => by
      rw [gi_lt (by rw [List.length_set]; exact hlen)]; simp
    obtain ⟨hA, v1, f1, hcell, _⟩ := rew_get hys (i := (i : Int)) (by omega) (by omega)
    repeat refine zz ?_
    refine o_storeC rfl rfl (hcell.at_ rfl) rfl rfl hf1 (hmem 0) ?_
    intro w2 hp
    replace hys := hys.putS hf1.nd (by decide) hin (j := 0) (x' := ⟨K, nd.place, nd.after⟩) (by decide) (fun ck fk hr => by obtain ⟨v0, rfl, h1⟩ := hr; exact ⟨v0, rfl, h1⟩) rfl hp
    replace hf1 := hf1.put hp
    replace hw1 := hw1.trans (hp.wrs_of (hmem 0))
    obtain ⟨hA, v1, f1, hcell, _⟩ := rew_get hys (i := (i : Int)) (by omega) (by omega)
    repeat refine zz ?_
    refine o_storeC rfl rfl (hcell.at_ rfl) rfl rfl hf1 (hmem 1) ?_
    intro w3 hp
    replace hys := hys.putS hf1.nd (by decide) hin (j := 1) (x' := ⟨K, K + 1, nd.after⟩) (by decide) (fun ck fk hr => by obtain ⟨v0, rfl, h1⟩ := hr; exact ⟨v0, rfl, h1⟩) rfl hp
    replace hf1 := hf1.put hp
    replace hw1 := hw1.trans (hp.wrs_of (hmem 1))
    obtain ⟨ck, fk, hnk, hsub, ⟨v0, rfl, hv0⟩, hcells, hA', back⟩ := hys.focusS hf1.nd (by decide) hin
    dsimp only at hv0
    repeat refine zz ?_
    refine o_call rfl rfl rfl (markNodeS_ok hv0 (hf1.sub hnk hsub) (by omega) (by omega)) ?_
    rintro _ w6 ⟨rfl, hv6, hf6, hw6⟩
    replace hys := back w6 ⟨K, K + 1, markN (K + 1 + 1) nd.after⟩ hw6 ⟨v0, rfl, hv6⟩
    replace hf1 := hf1.join hw6 hf6
    replace hw1 := hw1.trans (hw6.sub hsub)
    repeat refine zz ?_
    refine ⟨i + 1, ⟨rfl, find_int rfl (by omega), rfl, trivial⟩, ⟨by omega, ?_, hf1, hw1⟩, by omega⟩
    have e1 : (markR k (xs.take i) ++ xs.drop i).set i ⟨K, K + 1, markN (K + 1 + 1) nd.after⟩ = markR k (xs.take (i + 1)) ++ xs.drop (i + 1) := by
      rw [htake, markR_append, List.set_append_right _ _ (by omega), hl, Nat.sub_self, drop_gi (show i < xs.length by omega), List.set_cons_zero, hW, hK]
      simp only [markR, List.append_assoc, List.cons_append, List.nil_append]
      rw [show K + 2 = K + 1 + 1 by omega]
    rw [← e1]; exact hys
  · simp at hc
    obtain rfl : i = n := by omega
    have hti : xs.take i = xs := List.take_of_length_le (by omega)
    have hdi : xs.drop i = [] := List.drop_of_length_le (by omega)
    rw [hti, hdi, List.append_nil] at hys
    rw [hti]
    repeat refine zz ?_
    exact ret1 rfl rfl ⟨rfl, hys, hf1, hw1⟩

set_option maxHeartbeats 1000000 in
theorem heldRewritingS_ok {w : World} {v : Value} {xs : List Rwt} {fp : List Nat} {k : Int} (hx : Sl rewR w v (markR k xs) fp) (hk0 : 0 ≤ k) (hk1 : k + (rCnt xs : Int) ≤ 4611686018427387904) :
    Run Try.prog 19 [v, .int .i64 k] w (fun r w' => r = .int .i64 (k + (rCnt xs : Int)) ∧ w = w') := by
  have hn := hx.le
  obtain ⟨A, n, c, rfl, hnx⟩ := hx.split
  rw [markR_len] at hnx hn
  refine Run_intro Try.func19 (by unfold CallOk; kernel_rfl) rfl Try.ntmps19 (Nat.le_of_ble_eq_true rfl) ?_
  simp only [penv, Nat.reduceAdd, Nat.zero_add]
  repeat refine zz ?_
  refine W_loop (S := Nat) (fun i => [(0, .slice A n c), (1, .int .i64 (k + (rCnt (xs.take i) : Int))), (5, .int .i64 (i : Int))]) (fun i w' => w = w' ∧ i ≤ n) (fun i => n - i) 0 ⟨rfl, find_int rfl (by simp [rCnt]), rfl, trivial⟩ ⟨rfl, Nat.zero_le _⟩ ?_
  rintro i _ ⟨rfl, hi⟩
  repeat refine zz ?_
  refine W_cond rfl (fun hc => ?_) (fun hc => ?_)
  · have hin : i < n := by simp at hc; omega
    obtain ⟨hA, v1, f1, hck, hv, _⟩ := rew_get hx (i := (i : Int)) (by omega) (by omega)
    rw [gi_markR (by omega)] at hck hv
    have hct := rCnt_take (L := xs) (k := i) (by omega)
    have hcl := rCnt_take_le xs (i + 1)
    generalize hW : (gi xs (i : Int)) = nd at *
    generalize hK : k + (rCnt (xs.take i) : Int) = K at *
    have hK0 : 0 ≤ K := by omega
    rw [show K + 2 = K + 1 + 1 by omega] at *
    repeat refine zz ?_
    try (refine W_cond rfl (fun hc => by exfalso; first | (simp at hc; done) | (simp at hc; omega) | omega) (fun _ => ?_))
    repeat refine zz ?_
    try (refine W_cond rfl (fun hc => by exfalso; first | (simp at hc; done) | (simp at hc; omega) | omega) (fun _ => ?_))
    repeat refine zz ?_
    refine o_call rfl rfl rfl (heldNodeS_ok hv (by omega) (by omega)) ?_
    rintro _ _ ⟨rfl, rfl⟩
    repeat refine zz ?_
    try (refine W_cond rfl (fun hc => by exfalso; first | (simp at hc; done) | (simp at hc; omega) | omega) (fun _ => ?_))
    repeat refine zz ?_
    exact ⟨i + 1, ⟨rfl, find_int rfl (by omega), rfl, trivial⟩, ⟨rfl, by omega⟩, by omega⟩
  · simp at hc
    obtain rfl : i = n := by omega
    rw [List.take_of_length_le (show xs.length ≤ i by omega)]
    repeat refine zz ?_
    exact ret1 rfl rfl ⟨rfl, rfl⟩
end Go.E

/-
  Contracts of the laws' helpers that look for marks in pairs and nodes: each over data that has been marked. Conditions: as stated.
-/
import Derived.Test.YtomkdoppjimhoaaNa
set_option linter.unusedVariables false
set_option linter.unusedSimpArgs false
namespace Go.E
open Go Go.RowKit Go.Proofs
attribute [local irreducible] W WL WD WE thenE inE retQ PureOp Keep Cell Cells Blk Sl Rows Own Src Fresh

theorem heldPairS_ok {w : World} {v : Value} {xs : List (Int × Int)} {fp : List Nat} {k : Int} (hx : Sl pairR w v (markP k xs) fp) (hk0 : 0 ≤ k) (hk1 : k + 2 * (xs.length : Int) ≤ 4611686018427387904) :
    Run Try.prog 53 [v, .int .i64 k] w (fun r w' => r = .int .i64 (k + 2 * (xs.length : Int)) ∧ w = w') := by
  obtain ⟨A, n, c, rfl, hnx⟩ := hx.split
  rw [markP_len] at hnx
  refine Run_intro Try.func53 (by unfold CallOk; kernel_rfl) rfl Try.ntmps53 (Nat.le_of_ble_eq_true rfl) ?_
  simp only [penv, Nat.reduceAdd, Nat.zero_add]
  repeat refine zz ?_
  refine W_loop (S := Nat) (fun i => [(0, .slice A n c), (1, .int .i64 (k + 2 * (i : Int))), (5, .int .i64 (i : Int))]) (fun i w' => w = w' ∧ i ≤ n) (fun i => n - i) 0 ⟨rfl, find_int rfl (by omega), rfl, trivial⟩ ⟨rfl, Nat.zero_le _⟩ ?_
  rintro i _ ⟨rfl, hi⟩
  repeat refine zz ?_
  refine W_cond rfl (fun hc => ?_) (fun hc => ?_)
  · have hin : i < n := by simp at hc; omega
    obtain ⟨hA, hck⟩ := pair_get hx (i := (i : Int)) (by omega) (by omega)
    rw [gi_markP (by omega)] at hck
    repeat refine zz ?_
    try (refine W_cond rfl (fun hc => by exfalso; first | (simp at hc; done) | (simp at hc; omega) | omega) (fun _ => ?_))
    repeat refine zz ?_
    try (refine W_cond rfl (fun hc => by exfalso; first | (simp at hc; done) | (simp at hc; omega) | omega) (fun _ => ?_))
    repeat refine zz ?_
    exact ⟨i + 1, ⟨rfl, find_int rfl (by omega), rfl, trivial⟩, ⟨rfl, by omega⟩, by omega⟩
  · simp at hc
    obtain rfl : i = n := by omega
    repeat refine zz ?_
    exact ret1 rfl rfl ⟨by rw [hnx], rfl⟩
theorem gi_markN {k : Int} {xs : List Nod} {i : Nat} (h : i < xs.length) : gi (markN k xs) (i : Int) = ⟨k + (nCnt (xs.take i) : Int), wMark (k + (nCnt (xs.take i) : Int) + 1) (gi xs (i : Int)).wish⟩ := by
  induction xs generalizing k i with
  | nil => simp at h
  | cons x r ih =>
    cases i with
    | zero => simp [markN, gi, nCnt]
    | succ i =>
      have := ih (k := k + 1 + wCnt x.wish) (i := i) (by simpa using h)
      simp only [markN, gi, Int.toNat_natCast, List.getD_eq_getElem?_getD, List.getElem?_cons_succ, List.take_succ_cons, nCnt] at this ⊢
      rw [this]
      have e : k + 1 + (wCnt x.wish : Int) + (nCnt (r.take i) : Int) = k + ((1 + wCnt x.wish + nCnt (r.take i) : Nat) : Int) := by omega
      rw [e]
set_option maxHeartbeats 1000000 in
theorem heldNodeS_ok {w : World} {v : Value} {xs : List Nod} {fp : List Nat} {k : Int} (hx : Sl nodeR w v (markN k xs) fp) (hk0 : 0 ≤ k) (hk1 : k + (nCnt xs : Int) ≤ 4611686018427387904) :
    Run Try.prog 14 [v, .int .i64 k] w (fun r w' => r = .int .i64 (k + (nCnt xs : Int)) ∧ w = w') := by
  have hn := hx.le
  obtain ⟨A, n, c, rfl, hnx⟩ := hx.split
  rw [markN_len] at hnx hn
  refine Run_intro Try.func14 (by unfold CallOk; kernel_rfl) rfl Try.ntmps14 (Nat.le_of_ble_eq_true rfl) ?_
  simp only [penv, Nat.reduceAdd, Nat.zero_add]
  repeat refine zz ?_
  refine W_loop (S := Nat) (fun i => [(0, .slice A n c), (1, .int .i64 (k + (nCnt (xs.take i) : Int))), (5, .int .i64 (i : Int))]) (fun i w' => w = w' ∧ i ≤ n) (fun i => n - i) 0 ⟨rfl, find_int rfl (by simp [nCnt]), rfl, trivial⟩ ⟨rfl, Nat.zero_le _⟩ ?_
  rintro i _ ⟨rfl, hi⟩
  repeat refine zz ?_
  refine W_cond rfl (fun hc => ?_) (fun hc => ?_)
  · have hin : i < n := by simp at hc; omega
    obtain ⟨hA, v1, u1, f1, f2, hck, hv, hu, _⟩ := node_get hx (i := (i : Int)) (by omega) (by omega)
    rw [gi_markN (by omega)] at hck hv hu
    have hct := nCnt_take (L := xs) (k := i) (by omega)
    have hcl := nCnt_take_le xs (i + 1)
    generalize hW : (gi xs (i : Int)) = nd at *
    have hwc : wCnt nd.wish = 3 + nd.wish.list.length + 2 * nd.wish.pairs.length := rfl
    generalize hK : k + (nCnt (xs.take i) : Int) = K at *
    have hK0 : 0 ≤ K := by omega
    simp only [wMark] at hck hv hu
    rw [show K + 1 + 2 = K + 1 + 1 + 1 by omega, show K + 1 + 3 = K + 1 + 1 + 1 + 1 by omega] at *
    repeat refine zz ?_
    try (refine W_cond rfl (fun hc => by exfalso; first | (simp at hc; done) | (simp at hc; omega) | omega) (fun _ => ?_))
    repeat refine zz ?_
    try (refine W_cond rfl (fun hc => by exfalso; first | (simp at hc; done) | (simp at hc; omega) | omega) (fun _ => ?_))
    repeat refine zz ?_
    try (refine W_cond rfl (fun hc => by exfalso; first | (simp at hc; done) | (simp at hc; omega) | omega) (fun _ => ?_))
    repeat refine zz ?_
    try (refine W_cond rfl (fun hc => by exfalso; first | (simp at hc; done) | (simp at hc; omega) | omega) (fun _ => ?_))
    repeat refine zz ?_
    refine o_call rfl rfl rfl (heldIntS_ok hv (by omega) (by rw [iota_len]; omega)) ?_
    rintro _ _ ⟨rfl, rfl⟩
    rw [heldI_iota]
    repeat refine zz ?_
    try (refine W_cond rfl (fun hc => by exfalso; first | (simp at hc; done) | (simp at hc; omega) | omega) (fun _ => ?_))
    repeat refine zz ?_
    refine o_call rfl rfl rfl (heldPairS_ok hu (by omega) (by omega)) ?_
    rintro _ _ ⟨rfl, rfl⟩
    repeat refine zz ?_
    try (refine W_cond rfl (fun hc => by exfalso; first | (simp at hc; done) | (simp at hc; omega) | omega) (fun _ => ?_))
    repeat refine zz ?_
    exact ⟨i + 1, ⟨rfl, find_int rfl (by omega), rfl, trivial⟩, ⟨rfl, by omega⟩, by omega⟩
  · simp at hc
    obtain rfl : i = n := by omega
    rw [List.take_of_length_le (show xs.length ≤ i by omega)]
    repeat refine zz ?_
    exact ret1 rfl rfl ⟨rfl, rfl⟩
end Go.E

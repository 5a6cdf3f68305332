/-
  Marks of lists of lists of nodes. Conditions: as stated.
-/
import Derived.Test.YtpdhdnmcafjadaaNc
set_option linter.unusedVariables false
set_option linter.unusedSimpArgs false
namespace Go.E
open Go Go.RowKit Go.Proofs
def nsCnt : List (List Nod) → Nat
  | [] => 0
  | x :: r => nCnt x + nsCnt r
def markNS (k : Int) : List (List Nod) → List (List Nod)
  | [] => []
  | x :: r => markN k x :: markNS (k + (nCnt x : Int)) r
theorem markNS_len (k : Int) (xs : List (List Nod)) : (markNS k xs).length = xs.length := by
  induction xs generalizing k with
  | nil => rfl
  | cons x r ih => simp [markNS, ih]
theorem nsCnt_append (a b : List (List Nod)) : nsCnt (a ++ b) = nsCnt a + nsCnt b := by
  induction a with
  | nil => simp [nsCnt]
  | cons x r ih => simp only [List.cons_append, nsCnt, ih]; omega
theorem markNS_append (k : Int) (a b : List (List Nod)) : markNS k (a ++ b) = markNS k a ++ markNS (k + (nsCnt a : Int)) b := by
  induction a generalizing k with
  | nil => simp [markNS, nsCnt]
  | cons x r ih =>
    simp only [List.cons_append, markNS, nsCnt, ih]
    rw [show k + (nCnt x : Int) + (nsCnt r : Int) = k + ((nCnt x + nsCnt r : Nat) : Int) by omega]
theorem nsCnt_le (L : List (List Nod)) : nsCnt L ≤ 4 * (L.length + totNS L) := by
  induction L with
  | nil => simp [nsCnt]
  | cons x r ih => have := nCnt_le x; simp only [nsCnt, totNS, List.length_cons]; omega
attribute [local irreducible] W WL WD WE thenE inE retQ PureOp Keep Cell Cells Blk Sl Rows Own Src Fresh
attribute [local irreducible] markN nCnt

set_option maxHeartbeats 1000000 in
theorem markNodeSS_ok {w : World} {v : Value} {xss : List (List Nod)} {fp : List Nat} {B : Nat} {k : Int} (hx : Sl (slR nodeR) w v xss fp) (hf : Fresh B w fp) (hk0 : 0 ≤ k) (hk1 : k + nsCnt xss ≤ 4611686018427387904) :
    Run Try.prog 52 [v, .int .i64 k] w (fun r w' => r = .int .i64 (k + nsCnt xss) ∧ Sl (slR nodeR) w' v (markNS k xss) fp ∧ Fresh B w' fp ∧ Wrs w w' fp) := by
  have hn := hx.le
  obtain ⟨A, n, c, rfl, hnx⟩ := hx.split
  refine Run_intro Try.func52 (by unfold CallOk; kernel_rfl) rfl Try.ntmps52 (Nat.le_of_ble_eq_true rfl) ?_
  simp only [penv, Nat.reduceAdd, Nat.zero_add]
  repeat (first|refine z_1 ?_|refine z_2 ?_|refine s_o ?_|refine z_3 ?_|refine z_4 ?_|refine z_5 ?_|refine z_6 ?_|refine z_7 ?_|refine z_8 ?_|refine z_9 ?_|refine z_a ?_|refine z_b ?_|refine z_d ?_|refine z_e ?_|refine z_f ?_|refine z_g ?_|refine z_h ?_|refine z_i ?_|refine z_j ?_|refine s_a ?_|refine s_s ?_|refine s_n ?_|refine s_i ?_|refine s_f ?_|refine s_b ?_|refine s_d ?_|refine s_l1 ?_|refine s_l2 ?_|refine s_l3 ?_|refine s_l4 ?_|refine s_l5 ?_|refine s_l6 ?_|refine s_l7 ?_|refine s_l8 ?_|refine s_l9 ?_|refine s_g ?_|refine s_q ?_|refine s_e ?_|refine s_j ?_)
  refine W_loop (S := Nat) (fun s => [(0, .slice A n c), (1, .int .i64 (k + (nsCnt (xss.take s) : Int))), (5, .int .i64 (s : Int))]) (fun s w' => s ≤ n ∧ Sl (slR nodeR) w' (.slice A n c) (markNS k (xss.take s) ++ xss.drop s) fp ∧ Fresh B w' fp ∧ Wrs w w' fp) (fun s => n - s) 0 ⟨rfl, find_int rfl (by simp [nsCnt]), rfl, trivial⟩ ⟨Nat.zero_le _, by simpa [markNS] using hx, hf, Wrs.refl _⟩ ?_
  rintro i w1 ⟨hi, hys, hf1, hw1⟩
  repeat (first|refine z_1 ?_|refine z_2 ?_|refine s_o ?_|refine z_3 ?_|refine z_4 ?_|refine z_5 ?_|refine z_6 ?_|refine z_7 ?_|refine z_8 ?_|refine z_9 ?_|refine z_a ?_|refine z_b ?_|refine z_d ?_|refine z_e ?_|refine z_f ?_|refine z_g ?_|refine z_h ?_|refine z_i ?_|refine z_j ?_|refine s_a ?_|refine s_s ?_|refine s_n ?_|refine s_i ?_|refine s_f ?_|refine s_b ?_|refine s_d ?_|refine s_l1 ?_|refine s_l2 ?_|refine s_l3 ?_|refine s_l4 ?_|refine s_l5 ?_|refine s_l6 ?_|refine s_l7 ?_|refine s_l8 ?_|refine s_l9 ?_|refine s_g ?_|refine s_q ?_|refine s_e ?_|refine s_j ?_)
  refine W_cond rfl (fun hc => ?_) (fun hc => ?_)
  · have hin : i < n := by simp at hc; omega
    obtain ⟨hk', ck, fk, hnk, hsub, ⟨u, rfl, hu⟩, hcell, hA, back⟩ := hys.focusI hf1.nd (by decide) hin
    have hcell1 := hcell.one
    have htake := take_gi (xs := xss) (k := i) (by omega)
    have htot : nsCnt (xss.take (i + 1)) = nsCnt (xss.take i) + nCnt (gi xss (i : Int)) := by rw [htake, nsCnt_append]; simp [nsCnt]
    have htl : nsCnt (xss.take (i + 1)) ≤ nsCnt xss := by
      have := nsCnt_append (xss.take (i + 1)) (xss.drop (i + 1))
      rw [List.take_append_drop] at this; omega
    have hel : (markNS k (xss.take i) ++ xss.drop i)[i] = gi xss (i : Int) := by
      have hl : (markNS k (xss.take i)).length = i := by rw [markNS_len, List.length_take]; omega
      rw [List.getElem_append_right (by omega)]
      simp only [hl, Nat.sub_self, List.getElem_drop, Nat.add_zero]
      rw [gi_lt (by omega)]
    rw [hel] at hu
    repeat (first|refine z_1 ?_|refine z_2 ?_|refine s_o ?_|refine z_3 ?_|refine z_4 ?_|refine z_5 ?_|refine z_6 ?_|refine z_7 ?_|refine z_8 ?_|refine z_9 ?_|refine z_a ?_|refine z_b ?_|refine z_d ?_|refine z_e ?_|refine z_f ?_|refine z_g ?_|refine z_h ?_|refine z_i ?_|refine z_j ?_|refine s_a ?_|refine s_s ?_|refine s_n ?_|refine s_i ?_|refine s_f ?_|refine s_b ?_|refine s_d ?_|refine s_l1 ?_|refine s_l2 ?_|refine s_l3 ?_|refine s_l4 ?_|refine s_l5 ?_|refine s_l6 ?_|refine s_l7 ?_|refine s_l8 ?_|refine s_l9 ?_|refine s_g ?_|refine s_q ?_|refine s_e ?_|refine s_j ?_)
    refine o_call rfl rfl rfl (markNodeS_ok hu (hf1.sub hnk hsub) (by omega) (by omega)) ?_
    rintro _ w2 ⟨rfl, hs2, hf2, hw2⟩
    have hb := back w2 (markN (k + (nsCnt (xss.take i) : Int)) (gi xss (i : Int))) hw2 ⟨u, rfl, hs2⟩
    repeat (first|refine z_1 ?_|refine z_2 ?_|refine s_o ?_|refine z_3 ?_|refine z_4 ?_|refine z_5 ?_|refine z_6 ?_|refine z_7 ?_|refine z_8 ?_|refine z_9 ?_|refine z_a ?_|refine z_b ?_|refine z_d ?_|refine z_e ?_|refine z_f ?_|refine z_g ?_|refine z_h ?_|refine z_i ?_|refine z_j ?_|refine s_a ?_|refine s_s ?_|refine s_n ?_|refine s_i ?_|refine s_f ?_|refine s_b ?_|refine s_d ?_|refine s_l1 ?_|refine s_l2 ?_|refine s_l3 ?_|refine s_l4 ?_|refine s_l5 ?_|refine s_l6 ?_|refine s_l7 ?_|refine s_l8 ?_|refine s_l9 ?_|refine s_g ?_|refine s_q ?_|refine s_e ?_|refine s_j ?_)
    refine ⟨i + 1, ⟨rfl, find_int rfl (by rw [htot]; omega), rfl, trivial⟩, ⟨by omega, ?_, hf1.join hw2 hf2, hw1.trans (hw2.sub hsub)⟩, by omega⟩
    have hl : (markNS k (xss.take i)).length = i := by rw [markNS_len, List.length_take]; omega
    have e1 : (markNS k (xss.take i) ++ xss.drop i).set i (markN (k + (nsCnt (xss.take i) : Int)) (gi xss (i : Int))) = markNS k (xss.take (i + 1)) ++ xss.drop (i + 1) := by
      rw [htake, markNS_append, List.set_append_right _ _ (by omega), hl, Nat.sub_self, drop_gi (show i < xss.length by omega), List.set_cons_zero]
      simp [markNS]
    rw [← e1]; exact hb
  · simp at hc
    obtain rfl : i = n := by omega
    have hti : xss.take i = xss := List.take_of_length_le (by omega)
    have hdi : xss.drop i = [] := List.drop_of_length_le (by omega)
    rw [hti, hdi, List.append_nil] at hys
    rw [hti]
    repeat (first|refine z_1 ?_|refine z_2 ?_|refine s_o ?_|refine z_3 ?_|refine z_4 ?_|refine z_5 ?_|refine z_6 ?_|refine z_7 ?_|refine z_8 ?_|refine z_9 ?_|refine z_a ?_|refine z_b ?_|refine z_d ?_|refine z_e ?_|refine z_f ?_|refine z_g ?_|refine z_h ?_|refine z_i ?_|refine z_j ?_|refine s_a ?_|refine s_s ?_|refine s_n ?_|refine s_i ?_|refine s_f ?_|refine s_b ?_|refine s_d ?_|refine s_l1 ?_|refine s_l2 ?_|refine s_l3 ?_|refine s_l4 ?_|refine s_l5 ?_|refine s_l6 ?_|refine s_l7 ?_|refine s_l8 ?_|refine s_l9 ?_|refine s_g ?_|refine s_q ?_|refine s_e ?_|refine s_j ?_)
    exact ret1 rfl rfl ⟨rfl, hys, hf1, hw1⟩

end Go.E

/-
  Contracts: sorting a short row of items in place (insertion). Conditions: at most 16 items, as stated.
-/
import Derived.Test.YtnlleecmnjnphaaGreatL9
set_option linter.unusedVariables false
set_option linter.unusedSimpArgs false
namespace Go.E
open Go Go.RowKit Go.Proofs
section flat
variable {cf : Int → List Value} (hcf : ∀ i, (cf i).length = 2)
include hcf
theorem fm_len (ps : List Int) : (ps.flatMap cf).length = ps.length * 2 := by
  induction ps with
  | nil => rfl
  | cons x r ih => rw [List.flatMap_cons, List.length_append, ih, hcf, List.length_cons]; omega
theorem fm_at {pad : List Value} : ∀ {ps : List Int} {k r : Nat} {u : Value}, k < ps.length → (cf (gi ps (k : Int)))[r]? = some u → (ps.flatMap cf ++ pad)[k * 2 + r]? = some u := by
  intro ps
  induction ps with
  | nil => intro k r u h; simp at h
  | cons x xs ih =>
    intro k r u hk hu
    rw [List.flatMap_cons, List.append_assoc]
    cases k with
    | zero =>
      have e : gi (x :: xs) ((0 : Nat) : Int) = x := by simp [gi]
      rw [e] at hu
      rw [Nat.zero_mul, Nat.zero_add, List.getElem?_append_left (List.getElem?_eq_some_iff.1 hu).1, hu]
    | succ k =>
      have e : gi (x :: xs) ((k + 1 : Nat) : Int) = gi xs (k : Int) := by simp [gi]
      rw [e] at hu
      rw [List.getElem?_append_right (by rw [hcf]; omega), hcf, show (k + 1) * 2 + r - 2 = k * 2 + r by omega]
      exact ih (by simpa using hk) hu
theorem fm_set {pad : List Value} {j : Int} : ∀ {ps : List Int} {k : Nat}, k < ps.length → (ps.flatMap cf ++ pad).take (k * 2) ++ cf j ++ (ps.flatMap cf ++ pad).drop (k * 2 + 2) = (ps.set k j).flatMap cf ++ pad := by
  intro ps
  induction ps with
  | nil => intro k h; simp at h
  | cons x xs ih =>
    intro k hk
    cases k with
    | zero =>
      simp only [Nat.zero_mul, List.take_zero, List.nil_append, Nat.zero_add, List.set_cons_zero, List.flatMap_cons, List.append_assoc]
      rw [List.drop_left' (hcf x)]
    | succ k =>
      have := ih (k := k) (by simpa using hk)
      simp only [List.set_cons_succ, List.flatMap_cons, List.append_assoc] at this ⊢
      rw [← this, show (k + 1) * 2 = (cf x).length + k * 2 by rw [hcf]; omega, show (cf x).length + k * 2 + 2 = (cf x).length + (k * 2 + 2) by omega, List.take_length_add_append, List.drop_length_add_append]
      simp
theorem arr_cells {w : World} {b : Nat} {t : TypeId} {ps : List Int} {pad : List Value} (hb : Blk w b t (ps.flatMap cf ++ pad)) {k : Nat} (hk : k < ps.length) : Cells w (ea (some ⟨b, 0, none⟩) 2 (k : Int)) (cf (gi ps (k : Int))) := by
  refine ⟨_, ea_blk _ _ _ _, fun j u hu => ?_⟩
  rw [add_mk, hb.cell?, Nat.zero_add]
  exact fm_at hcf hk hu
end flat
abbrev cfv (A U : Int → Value) (i : Int) : List Value := [A i, U i]
/-- a row in which x stands at place j among out -/
def qL (out : List Int) (x : Int) (rest : List Int) (j : Nat) : List Int := out.take j ++ x :: (out.drop j ++ rest)
theorem qL_len {out : List Int} {x : Int} {rest : List Int} {j : Nat} (h : j ≤ out.length) : (qL out x rest j).length = out.length + 1 + rest.length := by
  simp only [qL, List.length_append, List.length_take, List.length_cons, List.length_drop]; omega
theorem qL_at {out : List Int} {x : Int} {rest : List Int} {j : Nat} (h : j ≤ out.length) : gi (qL out x rest j) (j : Int) = x := by
  rw [gi_lt (by rw [qL_len h]; omega)]
  simp only [qL]
  rw [List.getElem_append_right (by rw [List.length_take]; omega)]
  simp only [List.length_take, Nat.min_eq_left h, Nat.sub_self, List.getElem_cons_zero]
theorem qL_prev {out : List Int} {x : Int} {rest : List Int} {k : Nat} (h : k + 1 ≤ out.length) : gi (qL out x rest (k + 1)) (k : Int) = gi out (k : Int) := by
  rw [gi_lt (by rw [qL_len h]; omega), gi_lt (show k < out.length by omega)]
  simp only [qL]
  rw [List.getElem_append_left (by rw [List.length_take]; omega), List.getElem_take]
theorem qL_swap {out : List Int} {x : Int} {rest : List Int} {k : Nat} (h : k + 1 ≤ out.length) : ((qL out x rest (k + 1)).set (k + 1) (gi out (k : Int))).set k x = qL out x rest k := by
  have hl : (out.take k).length = k := by rw [List.length_take]; omega
  simp only [qL]
  rw [take_gi (show k < out.length by omega), drop_gi (show k < out.length by omega)]
  rw [List.set_append_right _ _ (by simp [hl]), show k + 1 - (out.take k ++ [gi out (k : Int)]).length = 0 by simp [hl], List.set_cons_zero, List.append_assoc, List.set_append_right _ _ (by omega), hl, Nat.sub_self]
  simp
theorem sortN_succ (v : Int → Int) (ps : List Int) (n : Nat) : sortN v ps (n + 1) = insP v (sortN v ps n) (gi ps (n : Int)) := rfl
theorem posP_succ (v : Int → Int) (out : List Int) (x : Int) (k : Nat) : posP v out x (k + 1) = if v x < v (gi out (k : Int)) then posP v out x k else k + 1 := rfl
theorem sort_one (v : Int → Int) {ps : List Int} (h : 0 < ps.length) : sortN v ps 1 ++ ps.drop 1 = ps := by
  have e : sortN v ps 1 = [gi ps ((0 : Nat) : Int)] := rfl
  rw [e]
  have := drop_gi (xs := ps) (k := 0) h
  rw [List.drop_zero] at this
  exact this.symm
theorem sort_in {v : Int → Int} {ps : List Int} {n : Nat} (hn : n ≤ ps.length) {y : Int} (h : y ∈ sortN v ps n) : y ∈ ps := List.mem_of_mem_take (((sortN_perm v ps n hn).mem_iff).1 h)
theorem Wrs.upd {w w' w'' : World} {b : Nat} {t : TypeId} {cs : List Value} (h : Wrs w w' [b]) (k : Upd w' w'' b t cs) : Wrs w w'' [b] :=
  h.trans ⟨k.os, k.tape, k.output, by rw [k.size]; exact Nat.le_refl _, fun c hc hm => k.other c fun e => hm (by simp [e])⟩
attribute [local irreducible] W WL WD WE thenE inE retQ PureOp Keep Cell Cells Blk Sl Rows Own Src Fresh
attribute [local irreducible] posP sortN qL List.flatMap

set_option maxHeartbeats 1000000 in
theorem insertionSort_ok {w : World} {b c n : Nat} {ps : List Int} {pad : List Value} {A U : Int → Value} {v : Int → Int} {f : FuncId} {ca : List Value} {I : World → Prop}
    (hone : ∀ i, i ∈ ps → (A i).oneCell' = true ∧ (U i).oneCell' = true)
    (hI1 : ∀ w1 w2, I w1 → Keep w1 w2 → I w2) (hI2 : ∀ w1 w2 cs, I w1 → Upd w1 w2 b 45 cs → I w2)
    (hcmp : ∀ w1 i j, I w1 → i ∈ ps → j ∈ ps → Run Tryz.prog f ([] ++ [.agg [A i, U i].toArray, .agg [A j, U j].toArray] ++ ca) w1 (fun r w2 => r = .int .i64 (v i - v j) ∧ Keep w1 w2))
    (hv : ∀ i, i ∈ ps → 0 ≤ v i ∧ v i ≤ 1000)
    (hb : Blk w b 45 (ps.flatMap (cfv A U) ++ pad)) (hn : n = ps.length) (hn16 : n ≤ 16) (hIw : I w) :
    Run Tryz.prog 89 [.slice (some ⟨b, 0, none⟩) n c, .int .i64 0, .int .i64 n, .func (.func f) ([] : List Value).toArray ca.toArray] w (fun r w' => Blk w' b 45 ((sortP v ps).flatMap (cfv A U) ++ pad) ∧ Wrs w w' [b] ∧ I w') := by
  refine Run_intro Tryz.func89 (by unfold CallOk; kernel_rfl) rfl Tryz.ntmps89 (Nat.le_of_ble_eq_true rfl) ?_
  simp only [penv, Nat.reduceAdd, Nat.zero_add]
  repeat refine zz ?_
  refine W_loop (S := Nat) (fun i => [(0, .slice (some ⟨b, 0, none⟩) n c), (1, .int .i64 0), (2, .int .i64 n), (3, .func (.func f) ([] : List Value).toArray ca.toArray), (8, .int .i64 (i : Int))]) (fun i w' => 1 ≤ i ∧ (i ≤ n ∨ n = 0) ∧ Blk w' b 45 ((sortN v ps (min i n) ++ ps.drop (min i n)).flatMap (cfv A U) ++ pad) ∧ Wrs w w' [b] ∧ I w') (fun i => n - i) 1 ⟨rfl, rfl, rfl, rfl, find_int rfl (by omega), trivial⟩ ⟨Nat.le_refl _, by omega, ?_, Wrs.refl _, hIw⟩ ?_
  · rcases Nat.eq_zero_or_pos n with h0 | h0
    · obtain rfl := List.eq_nil_of_length_eq_zero (hn ▸ h0)
      rw [h0]; unfold sortN; exact hb
    · rw [Nat.min_eq_left h0, sort_one v (by omega)]; exact hb
  rintro i wa ⟨hi1, hin, hba, hwa, hIa⟩
  repeat refine zz ?_
  refine W_cond rfl (fun hc => ?_) (fun hc => ?_)
  · have hil : i < n := by simp at hc; omega
    rw [Nat.min_eq_left (by omega)] at hba
    obtain ⟨out, hout⟩ : ∃ out, out = sortN v ps i := ⟨_, rfl⟩
    obtain ⟨x, hx⟩ : ∃ x, x = gi ps (i : Int) := ⟨_, rfl⟩
    have hol : out.length = i := by rw [hout, sortN_len]
    have hxm : x ∈ ps := by rw [hx]; exact gi_mem (by omega)
    have hom : ∀ k : Nat, k < i → gi out (k : Int) ∈ ps := fun k hk => sort_in (v := v) (n := i) (by omega) (by rw [← hout]; exact gi_mem (by omega))
    have hq0 : sortN v ps i ++ ps.drop i = qL out x (ps.drop (i + 1)) i := by
      rw [drop_gi (show i < ps.length by omega), ← hout, ← hx]
      have ht : out.take i = out := List.take_of_length_le (by omega)
      have hd : out.drop i = [] := List.drop_of_length_le (by omega)
      unfold qL
      rw [ht, hd]; rfl
    have hsn : sortN v ps (i + 1) = insP v out x := by rw [hout, hx, sortN_succ]
    rw [hq0] at hba
    have hql : ∀ j, j ≤ i → (qL out x (ps.drop (i + 1)) j).length = n := fun j hj => by rw [qL_len (by omega), List.length_drop]; omega
    repeat refine zz ?_
    refine W_loop (S := Nat) (fun j => [(0, .slice (some ⟨b, 0, none⟩) n c), (1, .int .i64 0), (2, .int .i64 n), (3, .func (.func f) ([] : List Value).toArray ca.toArray), (8, .int .i64 (i : Int)), (9, .int .i64 (j : Int))]) (fun j w' => j ≤ i ∧ posP v out x j = posP v out x i ∧ Blk w' b 45 ((qL out x (ps.drop (i + 1)) j).flatMap (cfv A U) ++ pad) ∧ Wrs w w' [b] ∧ I w') (fun j => j) i ⟨rfl, rfl, rfl, rfl, rfl, rfl, trivial⟩ ⟨Nat.le_refl _, rfl, hba, hwa, hIa⟩ ?_
    clear hba hwa hIa
    rintro j wb ⟨hji, hpos, hbb, hwb, hIb⟩
    have hfin : posP v out x j = j → Blk wb b 45 ((sortN v ps (min (i + 1) n) ++ ps.drop (min (i + 1) n)).flatMap (cfv A U) ++ pad) := fun hp => by
      have e : insP v out x ++ ps.drop (i + 1) = qL out x (ps.drop (i + 1)) j := by
        unfold insP qL
        rw [hol, ← hpos, hp, List.append_assoc]; rfl
      rw [Nat.min_eq_left (by omega), hsn, e]; exact hbb
    rcases Nat.eq_zero_or_pos j with hj0 | hj0
    · subst hj0
      repeat refine zz ?_
      refine W_quiet (Keep wb) (by kernel_rfl) (by kernel_rfl) (Keep.drew _) ?_
      repeat refine qq ?_
      intro wd hkd 
      repeat refine zz ?_
      exact ⟨i + 1, ⟨rfl, rfl, rfl, rfl, find_int rfl (by omega), trivial⟩, ⟨by omega, by omega, (hfin (by unfold posP; rfl)).keep hkd, hwb.trans hkd.wrs, hI1 _ _ hIb hkd⟩, by omega⟩
    obtain ⟨k, rfl⟩ : ∃ k, j = k + 1 := ⟨j - 1, by omega⟩
    have hps := posP_succ v out x k
    have hgx : gi (qL out x (ps.drop (i + 1)) (k + 1)) ((k + 1 : Nat) : Int) = x := qL_at (by omega)
    have hgp : gi (qL out x (ps.drop (i + 1)) (k + 1)) (k : Int) = gi out (k : Int) := qL_prev (by omega)
    have hcx := arr_cells (cf := cfv A U) (fun _ => rfl) hbb (k := k + 1) (by rw [hql _ hji]; omega)
    have hcp := arr_cells (cf := cfv A U) (fun _ => rfl) hbb (k := k) (by rw [hql _ hji]; omega)
    rw [hgx] at hcx
    rw [hgp] at hcp
    have ek : (k : Int) = ((k + 1 : Nat) : Int) - 1 := by omega
    have hAs : (some (⟨b, 0, none⟩ : Addr)).isSome = true := rfl
    have hcx' : Cells wb (ea (some ⟨b, 0, none⟩) 2 ((k + 1 : Nat) : Int)) [A x, U x] := hcx
    have hcp' : Cells wb (ea (some ⟨b, 0, none⟩) 2 (((k + 1 : Nat) : Int) - 1)) [A (gi out (k : Int)), U (gi out (k : Int))] := by rw [← ek]; exact hcp
    have hv1 := hv x hxm
    have hv2 := hv _ (hom k (by omega))
    repeat refine zz ?_
    refine W_quiet (Keep wb) (by kernel_rfl) (by kernel_rfl) (Keep.drew _) ?_
    repeat refine qq ?_
    refine WQ_part rfl rfl (fun h9 => ?_) (fun h9 => ?_)
    rotate_left
    · exfalso; simp at h9
    repeat refine qq ?_
    refine WQ_callv rfl rfl rfl rfl (fun w' hw' => (hcmp w' _ _ (hI1 _ _ hIb hw') hxm (hom k (by omega))).kk hw') ?_
    repeat refine qq ?_
    intro wd hkd 
    have hbd := hbb.keep hkd
    replace hwb := hwb.trans hkd.wrs
    replace hIb := hI1 _ _ hIb hkd
    replace hcx' := hcx'.keep hkd
    replace hcp' := hcp'.keep hkd
    clear hcx hcp
    obtain ⟨ox1, ox2⟩ := hone x hxm
    obtain ⟨op1, op2⟩ := hone _ (hom k (by omega))
    repeat refine zz ?_
    refine W_cond rfl (fun hd => ?_) (fun hd => ?_)
    · simp only [decide_eq_true_eq] at hd
      repeat refine zz ?_
      refine W_late (Keep wd) [15, 17] (by kernel_rfl) (Keep.drew wd) ?_
      first|refine e_o 0 ?_|refine e_a 0 ?_|refine e_s 0 ?_|refine e_n 0 ?_|refine e_i 0 ?_|refine e_f 0 ?_|refine e_b 0 ?_|refine e_d 0 ?_|refine e_l1 0 ?_|refine e_l2 0 ?_|refine e_l3 0 ?_|refine e_l4 0 ?_|refine e_l5 0 ?_|refine e_l6 0 ?_|refine e_l7 0 ?_|refine e_l8 0 ?_|refine e_l9 0 ?_|refine e_g 0 ?_|refine e_q 0 ?_|refine e_e 0 ?_|refine e_j 0 ?_
      first|refine e_o 1 ?_|refine e_a 1 ?_|refine e_s 1 ?_|refine e_n 1 ?_|refine e_i 1 ?_|refine e_f 1 ?_|refine e_b 1 ?_|refine e_d 1 ?_|refine e_l1 1 ?_|refine e_l2 1 ?_|refine e_l3 1 ?_|refine e_l4 1 ?_|refine e_l5 1 ?_|refine e_l6 1 ?_|refine e_l7 1 ?_|refine e_l8 1 ?_|refine e_l9 1 ?_|refine e_g 1 ?_|refine e_q 1 ?_|refine e_e 1 ?_|refine e_j 1 ?_
      first|refine e_o 2 ?_|refine e_a 2 ?_|refine e_s 2 ?_|refine e_n 2 ?_|refine e_i 2 ?_|refine e_f 2 ?_|refine e_b 2 ?_|refine e_d 2 ?_|refine e_l1 2 ?_|refine e_l2 2 ?_|refine e_l3 2 ?_|refine e_l4 2 ?_|refine e_l5 2 ?_|refine e_l6 2 ?_|refine e_l7 2 ?_|refine e_l8 2 ?_|refine e_l9 2 ?_|refine e_g 2 ?_|refine e_q 2 ?_|refine e_e 2 ?_|refine e_j 2 ?_
      first|refine e_o 3 ?_|refine e_a 3 ?_|refine e_s 3 ?_|refine e_n 3 ?_|refine e_i 3 ?_|refine e_f 3 ?_|refine e_b 3 ?_|refine e_d 3 ?_|refine e_l1 3 ?_|refine e_l2 3 ?_|refine e_l3 3 ?_|refine e_l4 3 ?_|refine e_l5 3 ?_|refine e_l6 3 ?_|refine e_l7 3 ?_|refine e_l8 3 ?_|refine e_l9 3 ?_|refine e_g 3 ?_|refine e_q 3 ?_|refine e_e 3 ?_|refine e_j 3 ?_
      first|refine e_o 4 ?_|refine e_a 4 ?_|refine e_s 4 ?_|refine e_n 4 ?_|refine e_i 4 ?_|refine e_f 4 ?_|refine e_b 4 ?_|refine e_d 4 ?_|refine e_l1 4 ?_|refine e_l2 4 ?_|refine e_l3 4 ?_|refine e_l4 4 ?_|refine e_l5 4 ?_|refine e_l6 4 ?_|refine e_l7 4 ?_|refine e_l8 4 ?_|refine e_l9 4 ?_|refine e_g 4 ?_|refine e_q 4 ?_|refine e_e 4 ?_|refine e_j 4 ?_
      first|refine e_o 5 ?_|refine e_a 5 ?_|refine e_s 5 ?_|refine e_n 5 ?_|refine e_i 5 ?_|refine e_f 5 ?_|refine e_b 5 ?_|refine e_d 5 ?_|refine e_l1 5 ?_|refine e_l2 5 ?_|refine e_l3 5 ?_|refine e_l4 5 ?_|refine e_l5 5 ?_|refine e_l6 5 ?_|refine e_l7 5 ?_|refine e_l8 5 ?_|refine e_l9 5 ?_|refine e_g 5 ?_|refine e_q 5 ?_|refine e_e 5 ?_|refine e_j 5 ?_
      first|refine e_o 6 ?_|refine e_a 6 ?_|refine e_s 6 ?_|refine e_n 6 ?_|refine e_i 6 ?_|refine e_f 6 ?_|refine e_b 6 ?_|refine e_d 6 ?_|refine e_l1 6 ?_|refine e_l2 6 ?_|refine e_l3 6 ?_|refine e_l4 6 ?_|refine e_l5 6 ?_|refine e_l6 6 ?_|refine e_l7 6 ?_|refine e_l8 6 ?_|refine e_l9 6 ?_|refine e_g 6 ?_|refine e_q 6 ?_|refine e_e 6 ?_|refine e_j 6 ?_
      first|refine e_o 7 ?_|refine e_a 7 ?_|refine e_s 7 ?_|refine e_n 7 ?_|refine e_i 7 ?_|refine e_f 7 ?_|refine e_b 7 ?_|refine e_d 7 ?_|refine e_l1 7 ?_|refine e_l2 7 ?_|refine e_l3 7 ?_|refine e_l4 7 ?_|refine e_l5 7 ?_|refine e_l6 7 ?_|refine e_l7 7 ?_|refine e_l8 7 ?_|refine e_l9 7 ?_|refine e_g 7 ?_|refine e_q 7 ?_|refine e_e 7 ?_|refine e_j 7 ?_
      first|refine e_o 8 ?_|refine e_a 8 ?_|refine e_s 8 ?_|refine e_n 8 ?_|refine e_i 8 ?_|refine e_f 8 ?_|refine e_b 8 ?_|refine e_d 8 ?_|refine e_l1 8 ?_|refine e_l2 8 ?_|refine e_l3 8 ?_|refine e_l4 8 ?_|refine e_l5 8 ?_|refine e_l6 8 ?_|refine e_l7 8 ?_|refine e_l8 8 ?_|refine e_l9 8 ?_|refine e_g 8 ?_|refine e_q 8 ?_|refine e_e 8 ?_|refine e_j 8 ?_
      first|refine e_o 9 ?_|refine e_a 9 ?_|refine e_s 9 ?_|refine e_n 9 ?_|refine e_i 9 ?_|refine e_f 9 ?_|refine e_b 9 ?_|refine e_d 9 ?_|refine e_l1 9 ?_|refine e_l2 9 ?_|refine e_l3 9 ?_|refine e_l4 9 ?_|refine e_l5 9 ?_|refine e_l6 9 ?_|refine e_l7 9 ?_|refine e_l8 9 ?_|refine e_l9 9 ?_|refine e_g 9 ?_|refine e_q 9 ?_|refine e_e 9 ?_|refine e_j 9 ?_
      first|refine e_o 10 ?_|refine e_a 10 ?_|refine e_s 10 ?_|refine e_n 10 ?_|refine e_i 10 ?_|refine e_f 10 ?_|refine e_b 10 ?_|refine e_d 10 ?_|refine e_l1 10 ?_|refine e_l2 10 ?_|refine e_l3 10 ?_|refine e_l4 10 ?_|refine e_l5 10 ?_|refine e_l6 10 ?_|refine e_l7 10 ?_|refine e_l8 10 ?_|refine e_l9 10 ?_|refine e_g 10 ?_|refine e_q 10 ?_|refine e_e 10 ?_|refine e_j 10 ?_
      first|refine e_o 11 ?_|refine e_a 11 ?_|refine e_s 11 ?_|refine e_n 11 ?_|refine e_i 11 ?_|refine e_f 11 ?_|refine e_b 11 ?_|refine e_d 11 ?_|refine e_l1 11 ?_|refine e_l2 11 ?_|refine e_l3 11 ?_|refine e_l4 11 ?_|refine e_l5 11 ?_|refine e_l6 11 ?_|refine e_l7 11 ?_|refine e_l8 11 ?_|refine e_l9 11 ?_|refine e_g 11 ?_|refine e_q 11 ?_|refine e_e 11 ?_|refine e_j 11 ?_
      first|refine e_o 12 ?_|refine e_a 12 ?_|refine e_s 12 ?_|refine e_n 12 ?_|refine e_i 12 ?_|refine e_f 12 ?_|refine e_b 12 ?_|refine e_d 12 ?_|refine e_l1 12 ?_|refine e_l2 12 ?_|refine e_l3 12 ?_|refine e_l4 12 ?_|refine e_l5 12 ?_|refine e_l6 12 ?_|refine e_l7 12 ?_|refine e_l8 12 ?_|refine e_l9 12 ?_|refine e_g 12 ?_|refine e_q 12 ?_|refine e_e 12 ?_|refine e_j 12 ?_
      first|refine e_o 13 ?_|refine e_a 13 ?_|refine e_s 13 ?_|refine e_n 13 ?_|refine e_i 13 ?_|refine e_f 13 ?_|refine e_b 13 ?_|refine e_d 13 ?_|refine e_l1 13 ?_|refine e_l2 13 ?_|refine e_l3 13 ?_|refine e_l4 13 ?_|refine e_l5 13 ?_|refine e_l6 13 ?_|refine e_l7 13 ?_|refine e_l8 13 ?_|refine e_l9 13 ?_|refine e_g 13 ?_|refine e_q 13 ?_|refine e_e 13 ?_|refine e_j 13 ?_
      first|refine e_o 14 ?_|refine e_a 14 ?_|refine e_s 14 ?_|refine e_n 14 ?_|refine e_i 14 ?_|refine e_f 14 ?_|refine e_b 14 ?_|refine e_d 14 ?_|refine e_l1 14 ?_|refine e_l2 14 ?_|refine e_l3 14 ?_|refine e_l4 14 ?_|refine e_l5 14 ?_|refine e_l6 14 ?_|refine e_l7 14 ?_|refine e_l8 14 ?_|refine e_l9 14 ?_|refine e_g 14 ?_|refine e_q 14 ?_|refine e_e 14 ?_|refine e_j 14 ?_
      have kd : Keep wd wd.drew := Keep.drew wd
      replace hbd := hbd.keep kd
      replace hwb := hwb.trans kd.wrs
      replace hIb := hI1 _ _ hIb kd
      refine WE_last 15 (by kernel_rfl) rfl (by kernel_rfl) ?_
      refine o_storeS (b := b) (off := (k + 1) * 2) rfl rfl (by rw [ea_blk, Nat.zero_add]) rfl (fun u hu => ?_) rfl hbd (by show (k + 1) * 2 + 2 ≤ _; rw [List.length_append, fm_len (fun _ => rfl), hql _ hji]; omega) ?_
      · simp only [List.mem_cons, List.not_mem_nil, or_false] at hu
        rcases hu with rfl | rfl
        · exact op1
        · exact op2
      intro w4 hu4
      have hb4 := hu4.blk
      replace hb4 : Blk w4 b 45 (((qL out x (ps.drop (i + 1)) (k + 1)).flatMap (cfv A U) ++ pad).take ((k + 1) * 2) ++ cfv A U (gi out (k : Int)) ++ ((qL out x (ps.drop (i + 1)) (k + 1)).flatMap (cfv A U) ++ pad).drop ((k + 1) * 2 + 2)) := hb4
      rw [fm_set (fun _ => rfl) (by rw [hql _ hji]; omega)] at hb4
      replace hwb := hwb.upd hu4
      replace hIb := hI2 _ _ _ hIb hu4
      refine WL_end ?_
      first|refine e_o 16 ?_|refine e_a 16 ?_|refine e_s 16 ?_|refine e_n 16 ?_|refine e_i 16 ?_|refine e_f 16 ?_|refine e_b 16 ?_|refine e_d 16 ?_|refine e_l1 16 ?_|refine e_l2 16 ?_|refine e_l3 16 ?_|refine e_l4 16 ?_|refine e_l5 16 ?_|refine e_l6 16 ?_|refine e_l7 16 ?_|refine e_l8 16 ?_|refine e_l9 16 ?_|refine e_g 16 ?_|refine e_q 16 ?_|refine e_e 16 ?_|refine e_j 16 ?_
      refine WE_last 17 (by kernel_rfl) rfl (by kernel_rfl) ?_
      refine o_storeS (b := b) (off := k * 2) rfl rfl (by rw [← ek, ea_blk, Nat.zero_add]) rfl (fun u hu => ?_) rfl hb4 (by show k * 2 + 2 ≤ _; rw [List.length_append, fm_len (fun _ => rfl), List.length_set, hql _ hji]; omega) ?_
      · simp only [List.mem_cons, List.not_mem_nil, or_false] at hu
        rcases hu with rfl | rfl
        · exact ox1
        · exact ox2
      intro w5 hu5
      have hb5 := hu5.blk
      replace hb5 : Blk w5 b 45 ((((qL out x (ps.drop (i + 1)) (k + 1)).set (k + 1) (gi out (k : Int))).flatMap (cfv A U) ++ pad).take (k * 2) ++ cfv A U x ++ (((qL out x (ps.drop (i + 1)) (k + 1)).set (k + 1) (gi out (k : Int))).flatMap (cfv A U) ++ pad).drop (k * 2 + 2)) := hb5
      rw [fm_set (fun _ => rfl) (by rw [List.length_set, hql _ hji]; omega), qL_swap (by omega)] at hb5
      replace hwb := hwb.upd hu5
      replace hIb := hI2 _ _ _ hIb hu5
      refine WL_end ?_
      refine WE_done (by kernel_rfl) ?_
      repeat refine zz ?_
      exact ⟨k, ⟨rfl, rfl, rfl, rfl, rfl, find_int rfl (by omega), trivial⟩, ⟨by omega, by rw [← hpos, hps, if_pos (by omega)], hb5, hwb, hIb⟩, by omega⟩
    · simp only [decide_eq_false_iff_not] at hd
      repeat refine zz ?_
      exact ⟨i + 1, ⟨rfl, rfl, rfl, rfl, find_int rfl (by omega), trivial⟩, ⟨by omega, by omega, (hfin (by rw [hps, if_neg (by omega)])).keep hkd, hwb, hIb⟩, by omega⟩
  · simp at hc
    repeat refine zz ?_
    refine ret0n rfl ⟨?_, hwa, hIa⟩
    rcases Nat.eq_zero_or_pos n with h0 | h0
    · obtain rfl := List.eq_nil_of_length_eq_zero (hn ▸ h0)
      rw [h0, Nat.min_zero, List.drop_nil, List.append_nil] at hba; unfold sortP; exact hba
    · have e : min i n = ps.length := by omega
      rw [e, List.drop_length, List.append_nil] at hba
      exact hba
end Go.E

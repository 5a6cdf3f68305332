/-
  Contracts: slices.IndexFunc, ContainsFunc and DeleteFunc on impl.Item. Conditions: as stated. Printed by a program (wip/gendl.py).
-/
import Derived.Test.YtnlleecmnjnphaaGreatIv
import Derived.Test.YtnlleecmnjnphaaGreatM3
set_option linter.unusedVariables false
set_option linter.unusedSimpArgs false
namespace Go.E
open Go Go.RowKit Go.Proofs
theorem Wrs.updV {w w' w'' : World} {b : Nat} {t : TypeId} {cs : List Value} (h : Wrs w w' [b]) (k : Upd w' w'' b t cs) : Wrs w w'' [b] :=
  h.trans ⟨k.os, k.tape, k.output, by rw [k.size]; exact Nat.le_refl _, fun c hc hm => k.other c fun e => hm (by simp [e])⟩
theorem Wrs.keepV {w w' w'' : World} {b : Nat} (h : Wrs w w' [b]) (k : Keep w' w'') : Wrs w w'' [b] := h.trans k.wrs
theorem filt_stepGV {α : Type} [Inhabited α] {p : α → Bool} {xs : List α} {k : Nat} (h : k < xs.length) : (xs.take (k + 1)).filter p = (xs.take k).filter p ++ (if p (gi xs (k : Int)) then [gi xs (k : Int)] else []) := by
  rw [take_gi h, List.filter_append]
  congr 1
  by_cases hs : p (gi xs (k : Int)) = true
  · rw [if_pos hs]; simp [hs]
  · rw [if_neg hs]; simp [hs]
theorem fl_takeV {α : Type} [Inhabited α] (F : Flat α) : ∀ (zs : List α) (i : Nat), i ≤ zs.length → (zs.flatMap F.cf).take (i * F.sz) = (zs.take i).flatMap F.cf
  | [], i, h => by simp at h; subst h; simp
  | x :: r, 0, h => by simp
  | x :: r, i + 1, h => by
    rw [List.take_succ_cons, List.flatMap_cons, List.flatMap_cons, Nat.succ_mul, Nat.add_comm, ← F.len x, List.take_length_add_append, F.len x, fl_takeV F r i (by simpa using h)]
attribute [local irreducible] W WL WD WE thenE inE retQ PureOp Keep Cell Cells Blk Sl Rows Own Src Fresh

theorem slices_IndexFuncV_ok {w : World} {v : Value} {xs : List (Itm × Value)} {fp : List Nat} {f : FuncId} {ca : List Value} {p : (Itm × Value) → Bool} (hx : Sl (ivF).R w v xs fp)
    (hf : ∀ w' x, Keep w w' → x ∈ xs → Run Tryz.prog f ([] ++ [.agg [.int .i64 (x).1.id, (x).2].toArray] ++ ca) w' (fun r w2 => r = .bool (p x) ∧ Keep w' w2)) :
    Run Tryz.prog 56 [v, .func (.func f) ([] : List Value).toArray ca.toArray] w (fun r w' => r = .int .i64 (idxB xs.length fun i => p (gi xs (i : Int))) ∧ Keep w w') := by
  have hn := hx.le
  obtain ⟨A, n, c, rfl, hnx⟩ := hx.split
  refine Run_intro Tryz.func56 (by unfold CallOk; kernel_rfl) rfl Tryz.ntmps56 (Nat.le_of_ble_eq_true rfl) ?_
  simp only [penv, Nat.reduceAdd, Nat.zero_add]
  repeat refine zz ?_
  refine W_loop (S := Nat) (fun k => [(0, .slice A n c), (1, .func (.func f) ([] : List Value).toArray ca.toArray), (7, .int .i64 n), (8, .int .i64 (k : Int))]) (fun k w' => Keep w w' ∧ k ≤ n ∧ ∀ i, i < k → (fun i : Nat => p (gi xs (i : Int))) i = false) (fun k => n - k) 0 ⟨rfl, rfl, rfl, rfl, trivial⟩ ⟨Keep.refl _, Nat.zero_le _, fun i hi => absurd hi (by omega)⟩ ?_
  rintro k w1 ⟨hk1, hk, hall⟩
  replace hx := hx.keep hk1
  repeat refine zz ?_
  refine W_cond rfl (fun hc => ?_) (fun hc => ?_)
  · have hkn : k < n := by simp at hc; omega
    obtain ⟨hA, _, hcell⟩ := Flat.get hx (i := (k : Int)) (by omega) (by omega)
    have hcell : Cells w1 (ea A 2 (k : Int)) [.int .i64 ((gi xs (k : Int))).1.id, ((gi xs (k : Int))).2] := hcell
    have hm : gi xs (k : Int) ∈ xs := by rw [gi_lt (by omega)]; exact List.getElem_mem _
    repeat refine zz ?_
    refine o_callv rfl rfl rfl rfl (hf w1 _ hk1 hm) ?_
    rintro _ w2 ⟨rfl, hk2⟩
    repeat refine zz ?_
    refine W_cond rfl (fun hd => ?_) (fun hd => ?_)
    · repeat refine zz ?_
      exact ret1 rfl rfl ⟨by rw [idxB_hit (k := k) (by omega) hall hd], hk1.keep hk2⟩
    · repeat refine zz ?_
      exact ⟨k + 1, ⟨rfl, rfl, rfl, rfl, trivial⟩, ⟨hk1.keep hk2, by omega, all_no hall hd⟩, by omega⟩
  · simp at hc
    obtain rfl : k = n := by omega
    repeat refine zz ?_
    exact ret1 rfl rfl ⟨by rw [idxB_none (by rwa [← hnx])], hk1⟩

theorem slices_ContainsFuncV_ok {w : World} {v : Value} {xs : List (Itm × Value)} {fp : List Nat} {f : FuncId} {ca : List Value} {p : (Itm × Value) → Bool} (hx : Sl (ivF).R w v xs fp)
    (hf : ∀ w' x, Keep w w' → x ∈ xs → Run Tryz.prog f ([] ++ [.agg [.int .i64 (x).1.id, (x).2].toArray] ++ ca) w' (fun r w2 => r = .bool (p x) ∧ Keep w' w2)) :
    Run Tryz.prog 31 [v, .func (.func f) ([] : List Value).toArray ca.toArray] w (fun r w' => r = .bool (anyB xs.length fun i => p (gi xs (i : Int))) ∧ Keep w w') := by
  refine Run_intro Tryz.func31 (by unfold CallOk; kernel_rfl) rfl Tryz.ntmps31 (Nat.le_of_ble_eq_true rfl) ?_
  simp only [penv, Nat.reduceAdd, Nat.zero_add]
  repeat refine zz ?_
  refine o_call rfl rfl rfl (slices_IndexFuncV_ok hx hf) ?_
  rintro _ w2 ⟨rfl, hk2⟩
  repeat refine zz ?_
  exact ret1 rfl rfl ⟨by rw [← anyB_idx], hk2⟩

set_option maxHeartbeats 2000000 in
theorem slices_DeleteFuncV_ok {w : World} {base : Nat} {v : Value} {xs : List (Itm × Value)} {f : FuncId} {ca : List Value} {p : (Itm × Value) → Bool} {b : Nat} {I : World → Prop} (ho : OwnF (ivF).R w base 45 v xs []) (hbv : v.ownBlock = some b)
    (hI1 : ∀ w1 w2, I w1 → Keep w1 w2 → I w2) (hI2 : ∀ w1 w2 cs, I w1 → Upd w1 w2 b 45 cs → I w2) (hIw : I w)
    (hf : ∀ w' x, I w' → x ∈ xs → Run Tryz.prog f ([] ++ [.agg [.int .i64 (x).1.id, (x).2].toArray] ++ ca) w' (fun r w2 => r = .bool (p x) ∧ Keep w' w2)) (h62 : xs.length ≤ 1048576) :
    Run Tryz.prog 35 [v, .func (.func f) ([] : List Value).toArray ca.toArray] w (fun r w' => OwnF (ivF).R w' base 45 r (xs.filter fun x => !p x) [] ∧ r.ownBlock = some b ∧ Wrs w w' [b] ∧ I w') := by
  obtain ⟨_, hok, hrow⟩ := Flat.row ho
  rcases hrow with ⟨rfl, _⟩ | ⟨b', cap, pad, rfl, hbase, hb, hle, hm, hcl⟩
  · cases hbv
  obtain rfl : b' = b := by simpa [Value.ownBlock] using hbv
  have hmx : maxLen ≤ 9223372036854775807 := by decide
  obtain ⟨fo, hso, _⟩ := ho.sl (by show 0 < 2; omega)
  refine Run_intro Tryz.func35 (by unfold CallOk; kernel_rfl) rfl Tryz.ntmps35 (Nat.le_of_ble_eq_true rfl) ?_
  simp only [penv, Nat.reduceAdd, Nat.zero_add]
  repeat refine zz ?_
  refine o_call rfl rfl rfl (slices_IndexFuncV_ok (p := p) hso (fun w' x hk hx => hf w' x (hI1 _ _ hIw hk) hx)) ?_
  rintro _ w1 ⟨rfl, hk1⟩
  have hI1w := hI1 _ _ hIw hk1
  replace hb := hb.keep hk1
  have hw1 : Wrs w w1 [b'] := hk1.wrs
  have ho1 := ho.keep hk1
  clear ho hso hIw
  rcases idxB_cases xs.length fun i => p (gi xs (i : Int)) with ⟨h1, h2⟩ | ⟨k0, h1, h3, h4, h5⟩
  · rw [h1]
    repeat refine zz ?_
    refine ret1 rfl rfl ⟨?_, rfl, hw1, hI1w⟩
    rw [List.filter_eq_self.2 fun x hx => by
      obtain ⟨i, hi, rfl⟩ := List.getElem_of_mem hx
      have := h2 i hi
      rw [gi_lt hi] at this
      simp [this]]
    exact ho1
  rw [h1]
  clear ho1
  have hf0 : (xs.take k0).filter (fun x => !p x) = xs.take k0 := List.filter_eq_self.2 fun x hx => by
    obtain ⟨i, hi, rfl⟩ := List.getElem_of_mem hx
    rw [List.length_take] at hi
    have := h5 i (by omega)
    rw [gi_lt (by omega)] at this
    simp [List.getElem_take, this]
  have hf1 : (xs.take (k0 + 1)).filter (fun x => !p x) = xs.take k0 := by
    rw [filt_stepGV (by omega), hf0, if_neg (by simp [h4]), List.append_nil]
  repeat refine zz ?_
  rw [show decide ((k0 : Int) = -1) = false from decide_eq_false (by omega)]
  repeat refine zz ?_
  refine W_loop (S := Nat × Nat × List (Itm × Value)) (fun s => [(0, .slice (some ⟨b', 0, none⟩) xs.length cap), (1, .func (.func f) ([] : List Value).toArray ca.toArray), (5, .int .i64 (s.2.1 : Int)), (6, .int .i64 (s.1 : Int))]) (fun s w' => (s.1 ≤ xs.length ∧ s.2.1 < s.1 ∧ s.2.2.length = xs.length ∧ s.2.2.take s.2.1 = (xs.take s.1).filter (fun x => !p x) ∧ (∀ m : Nat, s.1 ≤ m → gi s.2.2 (m : Int) = gi xs (m : Int)) ∧ ∀ x, x ∈ s.2.2 → x ∈ xs) ∧ Blk w' b' 45 (s.2.2.flatMap (ivF).cf ++ pad) ∧ Wrs w w' [b'] ∧ I w') (fun s => xs.length - s.1) (k0 + 1, k0, xs) ⟨rfl, rfl, rfl, find_int rfl (by dsimp only; omega), trivial⟩ ⟨⟨by dsimp only; omega, by dsimp only; omega, rfl, hf1.symm, fun m _ => rfl, fun x hx => hx⟩, hb, hw1, hI1w⟩ ?_
  clear hb hw1 hI1w hk1
  rintro ⟨j, i, zs⟩ wa ⟨⟨hj, hij, hzl, hzt, hzr, hzm⟩, hba, hwa, hIa⟩
  dsimp only at hj hij hzl hzt hzr hzm hba ⊢
  have hbase2 := hba.lt
  have hpl : xs.length * (ivF).sz + pad.length = cap * (ivF).sz := by rw [← hcl, List.length_append, Flat.fl_len]
  repeat refine zz ?_
  refine W_cond rfl (fun hc => ?_) (fun hc => ?_)
  · have hjl : j < xs.length := by simp at hc; omega
    have hcell : Cells wa (ea (some ⟨b', 0, none⟩) 2 (j : Int)) [.int .i64 ((gi xs (j : Int))).1.id, ((gi xs (j : Int))).2] := by
      have := Flat.cells (F := ivF) hba (k := j) (by omega)
      rw [hzr j (Nat.le_refl _)] at this; exact this
    have hm : gi xs (j : Int) ∈ xs := by rw [gi_lt (by omega)]; exact List.getElem_mem _
    have hones := (ivF).one _ (hok _ hm)
    repeat refine zz ?_
    refine o_alloc rfl rfl ?_
    intro b7 w2 hal7
    have hb7 := hal7.blk
    have he7 := hal7.b_eq
    repeat refine zz ?_
    refine o_storeS (b := b7) (off := 0) rfl rfl rfl rfl (fun v hv => hones v hv) rfl hb7 (by simp) ?_
    intro w3 hu3
    have hb73 : Blk w3 b7 45 [.int .i64 ((gi xs (j : Int))).1.id, ((gi xs (j : Int))).2] := hu3.blk
    have hkk : Keep wa w3 := hal7.kp.upd hu3 (by omega)
    have hne7 : b' ≠ b7 := by omega
    replace hwa := hwa.keepV hkk
    replace hIa := hI1 _ _ hIa hkk
    replace hba := hba.keep hkk
    clear hcell hal7 hu3 hb7
    have c7 := hb73.cells
    repeat refine zz ?_
    refine o_callv rfl rfl rfl rfl (hf w3 _ hIa hm) ?_
    rintro _ w4 ⟨rfl, hk4⟩
    replace hwa := hwa.keepV hk4
    replace hIa := hI1 _ _ hIa hk4
    replace hba := hba.keep hk4
    replace c7 := c7.keep hk4
    have hstep := filt_stepGV (p := fun x => !p x) (xs := xs) (k := j) hjl
    repeat refine zz ?_
    refine W_cond rfl (fun hd => ?_) (fun hd => ?_)
    · rw [if_pos hd] at hstep
      have hr0 : i * (ivF).sz + (ivF).sz ≤ xs.length * (ivF).sz := by rw [← Nat.succ_mul]; exact Nat.mul_le_mul_right _ (by omega)
      have hroom : i * (ivF).sz + (ivF).sz ≤ (zs.flatMap (ivF).cf ++ pad).length := by rw [List.length_append, Flat.fl_len, hzl]; omega
      repeat refine zz ?_
      refine o_storeS (b := b') (off := i * (ivF).sz) rfl rfl (by rw [ea_blk, Nat.zero_add]; rfl) rfl (fun v hv => hones v hv) rfl hba hroom ?_
      intro w5 hu5
      have hb5 := hu5.blk
      replace hb5 : Blk w5 b' 45 ((zs.flatMap (ivF).cf ++ pad).take (i * (ivF).sz) ++ (ivF).cf (gi xs (j : Int)) ++ (zs.flatMap (ivF).cf ++ pad).drop (i * (ivF).sz + (ivF).sz)) := hb5
      rw [Flat.fl_set (by omega)] at hb5
      replace hwa := hwa.updV hu5
      replace hIa := hI2 _ _ _ hIa hu5
      repeat refine zz ?_
      refine ⟨(j + 1, i + 1, zs.set i (gi xs (j : Int))), ⟨rfl, rfl, rfl, rfl, trivial⟩, ⟨⟨by dsimp only; omega, by dsimp only; omega, by simp [hzl], ?_, fun m h2 => ?_, fun x hx => ?_⟩, hb5, hwa, hIa⟩, by dsimp only; omega⟩
      · dsimp only
        rw [take_gi (by rw [List.length_set]; omega), hstep, ← hzt, List.take_set_of_le (Nat.le_refl _)]
        congr 2
        rw [gi_lt (by rw [List.length_set]; omega), List.getElem_set_self]
      · dsimp only at h2 ⊢
        rw [← hzr m (by omega)]
        simp only [gi, Int.toNat_natCast, List.getD_eq_getElem?_getD]
        rw [List.getElem?_set_ne (by omega)]
      · dsimp only at hx
        rcases List.mem_or_eq_of_mem_set hx with h | h
        · exact hzm x h
        · exact h ▸ hm
    · rw [if_neg (fun h => by have h' : (!p (gi xs (j : Int))) = true := h; rw [hd] at h'; cases h'), List.append_nil] at hstep
      repeat refine zz ?_
      exact ⟨(j + 1, i, zs), ⟨rfl, rfl, rfl, rfl, trivial⟩, ⟨⟨by dsimp only; omega, by dsimp only; omega, hzl, by dsimp only; rw [hstep]; exact hzt, fun m h2 => hzr m (by dsimp only at h2; omega), hzm⟩, hba, hwa, hIa⟩, by dsimp only; omega⟩
  · simp at hc
    obtain rfl : j = xs.length := by omega
    rw [List.take_length] at hzt
    have hil : i * (ivF).sz ≤ xs.length * (ivF).sz := Nat.mul_le_mul_right _ (by omega)
    repeat refine zz ?_
    refine WL_pure rfl rfl (o_slice_lo (l := i) rfl rfl (by omega)) ?_
    rw [if_neg (by omega)]
    refine o_clear (b := b') (off := 0 + i * 2) (n := xs.length - i) (c := cap - i) rfl (by show some _ = some _; rw [Option.map_some, add_mk]) (by intro u hu; simp at hu; rcases hu with rfl | rfl <;> rfl) hba (by
      rw [List.length_append, Flat.fl_len, hzl, Nat.zero_add]
      have : i * 2 + (xs.length - i) * 2 = xs.length * 2 := by rw [← Nat.add_mul]; congr 1; omega
      have e3 : (ivF).sz = 2 := rfl
      rw [e3]; omega) ?_
    intro w6 cs6 hu6 hl6 ht6
    rw [Nat.zero_add] at ht6
    have hI6 := hI2 _ _ _ hIa hu6
    have hw6 := hwa.updV hu6
    repeat refine zz ?_
    refine WL_pure rfl rfl (o_slice_hi (h := i) rfl rfl (by omega)) ?_
    repeat refine zz ?_
    have hlf : (xs.filter fun x => !p x).length = i := by rw [← hzt, List.length_take]; omega
    have hfin : OwnF (ivF).R w6 base 45 (.slice (some ⟨b', 0, none⟩) (xs.filter fun x => !p x).length cap) (xs.filter fun x => !p x) [] := by
      refine Flat.ofRow (cs := cs6) hu6.blk hbase (fun x hx => hok x (List.mem_filter.1 hx).1) ?_ (by omega) hm (by rw [hl6, List.length_append, Flat.fl_len, hzl]; exact hpl)
      rw [hlf]
      have e3 : i * (ivF).sz = i * 2 := rfl
      rw [e3, ht6, ← e3, List.take_append_of_le_length (by rw [Flat.fl_len, hzl]; exact hil), ← hzt]
      have := fl_takeV (ivF) zs i (by omega)
      exact this
    rw [hlf] at hfin
    exact ret1 rfl rfl ⟨hfin, rfl, hw6, hI6⟩
end Go.E

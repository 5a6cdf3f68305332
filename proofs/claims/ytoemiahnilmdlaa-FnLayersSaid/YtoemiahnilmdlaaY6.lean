/-
  Contracts: the layers of items by an order. Conditions: as stated.
-/
import Derived.Test.YtoemiahnilmdlaaX2
import Derived.Test.YtoemiahnilmdlaaY5
import Derived.Test.YtoemiahnilmdlaaFi
set_option linter.unusedVariables false
set_option linter.unusedSimpArgs false
namespace Go.E
open Go Go.RowKit Go.Proofs
theorem top_some {f : Itm → Itm → Int} (hf : Ord3 f) (L : List Itm) : ∀ n : Nat, 0 < n → ∃ i, i < n ∧ ∀ j, j < n → f (gi L (j : Int)) (gi L (i : Int)) ≠ 1 := by
  intro n
  induction n with
  | zero => intro h; omega
  | succ n ih =>
    intro _
    rcases Nat.eq_zero_or_pos n with h0 | h0
    · subst h0
      refine ⟨0, by omega, fun j hj => ?_⟩
      obtain rfl : j = 0 := by omega
      rw [hf.refl]; decide
    · obtain ⟨i, hi, ha⟩ := ih h0
      by_cases h1 : f (gi L (n : Int)) (gi L (i : Int)) = 1
      · refine ⟨n, by omega, fun j hj hb => ?_⟩
        rcases Nat.lt_or_ge j n with hj1 | hj1
        · have := hf.trans _ _ _ (.inr hb) (.inr h1)
          rw [hb, h1] at this
          exact ha j hj1 this
        · obtain rfl : j = n := by omega
          rw [hf.refl] at hb; cases hb
      · refine ⟨i, by omega, fun j hj => ?_⟩
        rcases Nat.lt_or_ge j n with hj1 | hj1
        · exact ha j hj1
        · obtain rfl : j = n := by omega
          exact h1
theorem best_less {L : List Itm} {e : List Nod} (hex : isExpr e = true) (h : 0 < L.length) : (only (bestL L e) false L).length < L.length := by
  obtain ⟨i, hi, ha⟩ := top_some (cmpE_ok hex) L L.length h
  have hu : unbeaten L e i = true := allB_true fun j hj => by simpa using ha j hj
  have hm : (gi L (i : Int)).id ∈ bestL L e := mem_pickN hi hu
  rw [only, List.length_filter_lt_length_iff_exists]
  refine ⟨gi L (i : Int), by rw [gi_lt hi]; exact List.getElem_mem _, ?_⟩
  rw [hasI_iff.2 hm]; decide
theorem only_mem {ids : List Int} {q : Bool} {L : List Itm} {x : Itm} (h : x ∈ only ids q L) : x ∈ L := (List.mem_filter.1 h).1
def lays (e : List Nod) : Nat → List Itm → List (List Int)
  | 0, _ => []
  | n + 1, M => if M.length = 0 then [] else bestL M e :: lays e n (only (bestL M e) false M)
theorem lays_nil (e : List Nod) (n : Nat) : lays e n [] = [] := by cases n <;> rfl
theorem lays_succ {e : List Nod} {n : Nat} {M : List Itm} (h : M.length ≠ 0) : lays e (n + 1) M = bestL M e :: lays e n (only (bestL M e) false M) := by rw [lays, if_neg h]
theorem lays_tot (e : List Nod) : ∀ (n : Nat) (M : List Itm), totL (lays e n M) ≤ n * M.length := by
  intro n
  induction n with
  | zero => intro M; simp [lays, totL]
  | succ n ih =>
    intro M
    rw [lays]
    split
    · simp [totL]
    · have h1 := ih (only (bestL M e) false M)
      have h2 := only_len (bestL M e) false M
      have h3 := bestL_len M e
      have h4 := Nat.mul_le_mul (Nat.le_refl n) h2
      have h5 : (n + 1) * M.length = n * M.length + M.length := by rw [Nat.add_mul, Nat.one_mul]
      simp only [totL]; omega
def layersOf (L : List Itm) (e : List Nod) : List (List Int) := if fine L e then lays e L.length L else []
theorem layersOf_tot (L : List Itm) (e : List Nod) : totL (layersOf L e) ≤ 256 := by
  unfold layersOf
  split
  · rename_i h
    have h1 := lays_tot e L.length L
    have h2 := (fine_ok h).2.1
    have h3 := Nat.mul_le_mul h2 h2
    omega
  · simp [totL]
/-- where the layers stand: acc is done, M is left -/
def Lay (L : List Itm) (e : List Nod) (M : List Itm) (acc : List (List Int)) : Prop :=
  (∀ x, x ∈ M → isItem x = true) ∧ M.length + acc.length ≤ L.length ∧ acc ++ lays e (L.length - acc.length) M = lays e L.length L
theorem Lay.start {L : List Itm} {e : List Nod} (h : fine L e = true) : Lay L e L [] := by
  have hk := (fine_ok h).1
  refine ⟨fun x hx => ?_, by simp, by simp⟩
  obtain ⟨i, hi, rfl⟩ := List.getElem_of_mem hx
  rw [← gi_lt hi]; exact hk i hi
theorem Lay.step {L M : List Itm} {e : List Nod} {acc : List (List Int)} (h : Lay L e M acc) (hex : isExpr e = true) (hm : 0 < M.length) : Lay L e (only (bestL M e) false M) (acc ++ [bestL M e]) := by
  obtain ⟨h1, h2, h3⟩ := h
  have hl := best_less hex hm
  refine ⟨fun x hx => h1 x (only_mem hx), by rw [List.length_append]; simp only [List.length_cons, List.length_nil]; omega, ?_⟩
  rw [← h3]
  obtain ⟨d, hd⟩ : ∃ d, L.length - acc.length = d + 1 := ⟨L.length - acc.length - 1, by omega⟩
  rw [hd, lays_succ (by omega), List.append_assoc, List.length_append]
  simp only [List.length_cons, List.length_nil]
  rw [show L.length - (acc.length + (0 + 1)) = d by omega]; rfl
theorem Lay.stop {L M : List Itm} {e : List Nod} {acc : List (List Int)} (h : Lay L e M acc) (hm : M.length = 0) : acc = lays e L.length L := by
  obtain rfl := List.eq_nil_of_length_eq_zero hm
  have := h.2.2
  rwa [lays_nil, List.append_nil] at this
theorem Lay.at_ {L M : List Itm} {e : List Nod} {acc : List (List Int)} (h : Lay L e M acc) : ∀ i : Nat, i < M.length → isItem (gi M (i : Int)) = true := fun i hi => by
  rw [gi_lt hi]; exact h.1 _ (List.getElem_mem _)
attribute [local irreducible] W WL WD WE thenE inE retQ PureOp Keep Cell Cells Blk Sl Rows Own Src Fresh
attribute [local irreducible] only hasI bestL cmpE isExpr areItems fine lays Lay

set_option maxHeartbeats 1000000 in
theorem impl_LayersOf_ok {w : World} {v u : Value} {L : List Itm} {e : List Nod} {fp gp : List Nat} (hL : Sl itemR w v L fp) (he : Sl nodeR w u e gp) (hn : e.length + totN e ≤ 1048576) :
    Run Try.prog 71 [v, u] w (fun r w' => Keep w w' ∧ ∃ fp, Sl (slR intR) w' r (layersOf L e) fp ∧ Fresh w.heap.size w' fp) := by
  have hdL := hL.dom
  refine Run_intro Try.func71 (by unfold CallOk; kernel_rfl) rfl Try.ntmps71 (Nat.le_of_ble_eq_true rfl) ?_
  simp only [penv, Nat.reduceAdd, Nat.zero_add]
  repeat refine zz ?_
  refine o_buildSlice rfl rfl rfl rfl rfl (by intro p hp; cases hp) (by omega) ?_
  intro bO wO halO
  have hkO := halO.kp
  have ho : OwnF (slR intR) wO w.heap.size 24 (.slice (some ⟨bO, 0, none⟩) 0 0) [] [] := OwnF.made halO.blk (by have := halO.b_eq; omega)
  have hk := hkO
  repeat refine zz ?_
  refine o_call rfl rfl rfl (areBoth_ok (hL.keep hk) (he.keep hk) hn) ?_
  rintro _ w2 ⟨rfl, hk2⟩
  replace hk := hk.keep hk2
  replace ho := ho.keep hk2
  repeat refine zz ?_
  refine W_cond rfl (fun h => ?_) (fun h => ?_)
  · simp at h
    repeat refine zz ?_
    obtain ⟨fp, hs, hf⟩ := ho.sl (by decide)
    exact ret1 rfl rfl ⟨hk, fp, by rw [layersOf, if_neg (by simp [h])]; exact hs, hf⟩
  simp at h
  have hok := fine_ok h
  have hln := hok.2.1
  repeat refine zz ?_
  refine W_loop (S := List Itm × List (List Int) × Value × Value) (fun s => [(1, u), (6, s.2.2.1), (5, s.2.2.2)]) (fun s w' => Keep w w' ∧ (∃ f, Sl itemR w' s.2.2.1 s.1 f ∧ ∀ b, s.2.2.2.ownBlock = some b → b ∉ f) ∧ Lay L e s.1 s.2.1 ∧ ∃ fi, OwnF (slR intR) w' w.heap.size 24 s.2.2.2 s.2.1 fi) (fun s => s.1.length) (L, [], v, _) ⟨rfl, rfl, rfl, trivial⟩ ⟨hk, ⟨fp, hL.keep hk, fun b hb hm => by have := (ho.lt hb).1; have := hdL b hm; omega⟩, Lay.start h, [], ho⟩ ?_
  clear ho hk hk2 halO hkO
  rintro ⟨M, acc, vM, va⟩ wa ⟨hka, ⟨fM, hMa, hsep⟩, hly, fi, hoa⟩
  dsimp only at hMa hly hoa hsep ⊢
  have hl2 : M.length + acc.length ≤ L.length := by unfold Lay at hly; exact hly.2.1
  obtain ⟨AM, m, cM, rfl, hmx⟩ := hMa.split
  repeat refine zz ?_
  refine W_cond rfl (fun hc => ?_) (fun hc => ?_)
  · have hml : 0 < M.length := by simp at hc; omega
    have hxx : True := trivial
    repeat refine zz ?_
    refine o_call rfl rfl rfl (best_ok hMa (he.keep hka) hok.2.2 hly.at_ (by omega)) ?_
    rintro vb w3 ⟨hk3, f3, hs3, hf3⟩
    have hdm := hoa.fresh.dom
    have hdo := fun b hb => (hoa.lt (b := b) hb).2
    have hz3 := hk3.size_le
    have hzk := hka.size_le
    replace hoa := hoa.keep hk3
    replace hka := hka.keep hk3
    replace hMa := hMa.keep hk3
    obtain ⟨A3, n3, c3, rfl, hn3⟩ := hs3.split
    repeat refine zz ?_
    refine o_buildSlice rfl rfl rfl rfl rfl (by simp [Value.cells]) (by omega) ?_
    intro b5 w5 hal5
    have hz5 := hal5.size
    have hkz := hka.size_le
    replace hoa := hoa.keep hal5.kp
    replace hka := hka.keep hal5.kp
    replace hs3 := hs3.keep hal5.kp
    replace hf3 := hf3.keep hal5.kp
    replace hMa := hMa.keep hal5.kp
    repeat refine zz ?_
    refine o_appendG (R := slR intR) (M := wa.heap.size) (gi := f3) rfl rfl rfl rfl rfl (by decide) hoa (Blk.src (xs := [bestL M e]) hal5.blk (Rows.single (R := slR intR) ⟨_, rfl, hs3⟩)) rfl (hf3.mono (by omega)) hdm hdo (fun b hb => hf3.ge hb) (by simp only [List.length_cons, List.length_nil]; omega) (by simp only [List.length_cons, List.length_nil]; omega) (by omega) ?_
    intro v6 w6 ho6 hb6 hg6 hv6
    have hk6 : Keep w w6 := hka.grown hg6 (fun b hb => (hoa.lt hb).1)
    have hs6 := hs3.same fun b hb => hg6.block b (hs3.dom b hb) (fun e => by have := hf3.ge hb; have := hdo b e.symm; omega)
    have hM6 := hMa.same fun b hb => hg6.block b (hMa.dom b hb) (fun e => hsep b e.symm hb)
    have hsep6 : ∀ b, v6.ownBlock = some b → b ∉ fM := fun b hb hm => hv6.elim (fun h1 => hsep b (h1 ▸ hb) hm) (fun h1 => by have := hMa.dom b hm; rw [h1] at hb; simp only [Option.some.injEq] at hb; omega)
    repeat refine zz ?_
    refine o_call rfl rfl rfl (only_ok hM6 hs6 (by omega)) ?_
    rintro v7 w7 ⟨hk7, f7, hM7, hf7⟩
    repeat refine zz ?_
    exact ⟨(only (bestL M e) false M, acc ++ [bestL M e], v7, v6), ⟨rfl, rfl, rfl, trivial⟩, ⟨hk6.keep hk7, ⟨f7, hM7, fun b hb hm => (hf7 b hm).elim (fun h1 => by have := (ho6.lt hb).2; omega) (hsep6 b hb)⟩, hly.step hok.2.2 hml, _, ho6.keep hk7⟩, best_less hok.2.2 hml⟩
  · simp at hc
    repeat refine zz ?_
    obtain ⟨fp, hs, hf⟩ := hoa.sl (by decide)
    exact ret1 rfl rfl ⟨hka, fp, by rw [layersOf, if_pos h, ← hly.stop (by omega)]; exact hs, hf⟩

set_option maxHeartbeats 1000000 in
theorem spec_LayersOf_ok {w : World} {v u : Value} {L : List Itm} {e : List Nod} {fp gp : List Nat} (hL : Sl itemR w v L fp) (he : Sl nodeR w u e gp) (hn : e.length + totN e ≤ 1048576) :
    Run Try.prog 72 [v, u] w (fun r w' => Keep w w' ∧ ∃ fp, Sl (slR intR) w' r (layersOf L e) fp ∧ Fresh w.heap.size w' fp) := by
  have hdL := hL.dom
  refine Run_intro Try.func72 (by unfold CallOk; kernel_rfl) rfl Try.ntmps72 (Nat.le_of_ble_eq_true rfl) ?_
  simp only [penv, Nat.reduceAdd, Nat.zero_add]
  repeat refine zz ?_
  refine o_buildSlice rfl rfl rfl rfl rfl (by intro p hp; cases hp) (by omega) ?_
  intro bO wO halO
  have hkO := halO.kp
  have ho : OwnF (slR intR) wO w.heap.size 24 (.slice (some ⟨bO, 0, none⟩) 0 0) [] [] := OwnF.made halO.blk (by have := halO.b_eq; omega)
  have hk := hkO
  repeat refine zz ?_
  refine W_loop (S := List Itm × List (List Int) × Value × Value) (fun s => [(0, v), (1, u), (6, s.2.2.1), (5, s.2.2.2)]) (fun s w' => Keep w w' ∧ (∃ f, Sl itemR w' s.2.2.1 s.1 f ∧ ∀ b, s.2.2.2.ownBlock = some b → b ∉ f) ∧ (fine L e = true → Lay L e s.1 s.2.1) ∧ (fine L e = false → s.2.1 = []) ∧ ∃ fi, OwnF (slR intR) w' w.heap.size 24 s.2.2.2 s.2.1 fi) (fun s => s.1.length) (L, [], v, _) ⟨rfl, rfl, rfl, rfl, trivial⟩ ⟨hk, ⟨fp, hL.keep hk, fun b hb hm => by have := (ho.lt hb).1; have := hdL b hm; omega⟩, Lay.start, fun _ => rfl, [], ho⟩ ?_
  clear ho hk halO hkO
  rintro ⟨M, acc, vM, va⟩ wa ⟨hka, ⟨fM, hMa, hsep⟩, hly1, hno, fi, hoa⟩
  dsimp only at hMa hly1 hno hoa hsep ⊢
  obtain ⟨AM, m, cM, rfl, hmx⟩ := hMa.split
  repeat refine zz ?_
  refine WL_part rfl rfl (fun hc => ?_) (fun hc => ?_)
  · have hml : 0 < M.length := by simp at hc; omega
    repeat refine zz ?_
    refine o_call rfl rfl rfl (l7Fine_ok (hL.keep hka) (he.keep hka) hn) ?_
    rintro _ w2 ⟨rfl, hk2⟩
    replace hka := hka.keep hk2
    replace hMa := hMa.keep hk2
    replace hoa := hoa.keep hk2
    repeat refine zz ?_
    refine W_cond rfl (fun h => ?_) (fun h => ?_)
    · have hok := fine_ok h
      have hln := hok.2.1
      have hly := hly1 h
      have hl2 : M.length + acc.length ≤ L.length := by unfold Lay at hly; exact hly.2.1
      repeat refine zz ?_
      refine o_call rfl rfl rfl (l7Best_ok hMa (he.keep hka) hok.2.2 hly.at_ (by omega)) ?_
      rintro vb w3 ⟨hk3, f3, hs3, hf3⟩
      have hdm := hoa.fresh.dom
      have hdo := fun b hb => (hoa.lt (b := b) hb).2
      have hz3 := hk3.size_le
      have hzk := hka.size_le
      replace hoa := hoa.keep hk3
      replace hka := hka.keep hk3
      replace hMa := hMa.keep hk3
      obtain ⟨A3, n3, c3, rfl, hn3⟩ := hs3.split
      repeat refine zz ?_
      refine o_buildSlice rfl rfl rfl rfl rfl (by simp [Value.cells]) (by omega) ?_
      intro b5 w5 hal5
      have hz5 := hal5.size
      have hkz := hka.size_le
      replace hoa := hoa.keep hal5.kp
      replace hka := hka.keep hal5.kp
      replace hs3 := hs3.keep hal5.kp
      replace hf3 := hf3.keep hal5.kp
      replace hMa := hMa.keep hal5.kp
      repeat refine zz ?_
      refine o_appendG (R := slR intR) (M := w2.heap.size) (gi := f3) rfl rfl rfl rfl rfl (by decide) hoa (Blk.src (xs := [bestL M e]) hal5.blk (Rows.single (R := slR intR) ⟨_, rfl, hs3⟩)) rfl (hf3.mono (by omega)) hdm hdo (fun b hb => hf3.ge hb) (by simp only [List.length_cons, List.length_nil]; omega) (by simp only [List.length_cons, List.length_nil]; omega) (by omega) ?_
      intro v6 w6 ho6 hb6 hg6 hv6
      have hk6 : Keep w w6 := hka.grown hg6 (fun b hb => (hoa.lt hb).1)
      have hs6 := hs3.same fun b hb => hg6.block b (hs3.dom b hb) (fun e => by have := hf3.ge hb; have := hdo b e.symm; omega)
      have hM6 := hMa.same fun b hb => hg6.block b (hMa.dom b hb) (fun e => hsep b e.symm hb)
      have hsep6 : ∀ b, v6.ownBlock = some b → b ∉ fM := fun b hb hm => hv6.elim (fun h1 => hsep b (h1 ▸ hb) hm) (fun h1 => by have := hMa.dom b hm; rw [h1] at hb; simp only [Option.some.injEq] at hb; omega)
      repeat refine zz ?_
      refine o_call rfl rfl rfl (l10Without_ok hM6 hs6 hly.at_ (by omega)) ?_
      rintro v7 w7 ⟨hk7, f7, hM7, hf7⟩
      repeat refine zz ?_
      exact ⟨(only (bestL M e) false M, acc ++ [bestL M e], v7, v6), ⟨rfl, rfl, rfl, rfl, trivial⟩, ⟨hk6.keep hk7, ⟨f7, hM7, fun b hb hm => (hf7 b hm).elim (fun h1 => by have := (ho6.lt hb).2; omega) (hsep6 b hb)⟩, (fun _ => hly.step hok.2.2 hml), (fun h1 => by rw [h] at h1; cases h1), _, ho6.keep hk7⟩, best_less hok.2.2 hml⟩
    · repeat refine zz ?_
      obtain ⟨fp, hs, hf⟩ := hoa.sl (by decide)
      exact ret1 rfl rfl ⟨hka, fp, by rw [layersOf, if_neg (by simp [h])]; rw [hno h] at hs; exact hs, hf⟩
  · simp at hc
    repeat refine zz ?_
    obtain ⟨fp, hs, hf⟩ := hoa.sl (by decide)
    refine ret1 rfl rfl ⟨hka, fp, ?_, hf⟩
    by_cases h : fine L e = true
    · rw [layersOf, if_pos h, ← (hly1 h).stop (by omega)]; exact hs
    · rw [layersOf, if_neg h]; rw [hno (by simpa using h)] at hs; exact hs

end Go.E

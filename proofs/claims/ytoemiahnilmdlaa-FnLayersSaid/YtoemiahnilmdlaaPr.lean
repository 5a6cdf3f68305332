/-
  Contracts: the best items in the order of how many each one dominates. Conditions: as stated.
-/
import Derived.Test.YtoemiahnilmdlaaPp
import Derived.Test.YtoemiahnilmdlaaIi
import Derived.Test.YtoemiahnilmdlaaX2
import Derived.Test.YtoemiahnilmdlaaAg
set_option linter.unusedVariables false
set_option linter.unusedSimpArgs false
namespace Go.E
open Go Go.RowKit Go.Proofs
def cntD (L : List Itm) (e : List Nod) (id : Int) : Int := ((relL L e id (-1)).length : Int)
def prV (L : List Itm) (e : List Nod) (id : Int) : Int := 16 - cntD L e id
def prog (L : List Itm) (e : List Nod) : List Int := sortP (prV L e) (bestItems L e)
theorem prog_len (L : List Itm) (e : List Nod) : (prog L e).length ≤ 16 := by rw [prog, sortP_len]; exact bestItems_len L e
theorem relL_le (L : List Itm) (e : List Nod) (id c : Int) : (relL L e id c).length ≤ L.length := by
  unfold relL
  split
  · exact pickN_len _ _ _
  · simp
theorem filt_step {p : Int → Bool} {xs : List Int} {k : Nat} (h : k < xs.length) : (xs.take (k + 1)).filter p = (xs.take k).filter p ++ (if p (gi xs (k : Int)) then [gi xs (k : Int)] else []) := by
  rw [take_gi h, List.filter_append]
  congr 1
  by_cases hs : p (gi xs (k : Int)) = true
  · rw [if_pos hs]; simp [hs]
  · rw [if_neg hs]; simp [hs]
theorem lvls_len (v : Int → Int) (b : List Int) (lo : Int) (h : ∀ y, y ∈ b → lo ≤ v y) (j : Nat) : (lvls v b lo j).length ≤ b.length := by
  rw [lvls_eq v b lo h]
  have := List.length_filter_le (fun y => decide (v y < lo + (j : Int))) (sortP v b)
  rw [sortP_len] at this; exact this
theorem lvls_zero (v : Int → Int) (b : List Int) (lo : Int) : lvls v b lo 0 = [] := rfl
theorem lvls_succ (v : Int → Int) (b : List Int) (lo : Int) (j : Nat) : lvls v b lo (j + 1) = lvls v b lo j ++ b.filter (fun y => decide (v y = lo + (j : Int))) := rfl
theorem OwnF.rowI {w : World} {base : Nat} {el : TypeId} {v : Value} {xs : List Int} (h : OwnF intR w base el v xs []) : (v = .slice none 0 0 ∧ xs = []) ∨ ∃ b cap pad, v = .slice (some ⟨b, 0, none⟩) xs.length cap ∧ base ≤ b ∧ Blk w b el (xs.map (Value.int .i64) ++ pad) ∧ xs.length ≤ cap ∧ cap ≤ 9223372036854775807 := by
  obtain ⟨⟨cells, ⟨hl, h1⟩, h2⟩, hf, hout⟩ := h
  obtain ⟨_, rfl⟩ := h2.noI
  rcases h1 with ⟨rfl, h0⟩ | ⟨g, cap, cur, rfl, hbase, hg, hle, hm, hcs, htk⟩
  · exact .inl ⟨rfl, List.eq_nil_of_length_eq_zero h0⟩
  · have htk' : cur.toList.take xs.length = xs.map (Value.int .i64) := by rw [← htk]; exact congrArg (fun k => cur.toList.take k) (Nat.mul_one _).symm
    have : maxLen ≤ 9223372036854775807 := by decide
    refine .inr ⟨g, cap, cur.toList.drop xs.length, rfl, hbase, ?_, hle, by omega⟩
    rw [← htk', List.take_append_drop]
    simpa [Blk] using hg
attribute [local irreducible] W WL WD WE thenE inE retQ PureOp Keep Cell Cells Blk Sl Rows Own Src Fresh
attribute [local irreducible] lvls sortP

set_option maxHeartbeats 2000000 in
theorem spec_ProgressiveBest_ok {w : World} {v u : Value} {L : List Itm} {e : List Nod} {fp gp : List Nat} (hL : Sl itemR w v L fp) (he : Sl nodeR w u e gp) (hn : e.length + totN e ≤ 1048576) :
    Run Try.prog 83 [v, u] w (fun r w' => Keep w w' ∧ ∃ fp, Sl intR w' r (prog L e) fp ∧ Fresh w.heap.size w' fp) := by
  have hL63 := hL.le
  obtain ⟨A, n, c, rfl, hnx⟩ := hL.split
  refine Run_intro Try.func83 (by unfold CallOk; kernel_rfl) rfl Try.ntmps83 (Nat.le_of_ble_eq_true rfl) ?_
  simp only [penv, Nat.reduceAdd, Nat.zero_add]
  repeat refine zz ?_
  refine o_buildSlice rfl rfl rfl rfl rfl (by intro p hp; cases hp) (by omega) ?_
  intro bO wO halO
  have hkO := halO.kp
  have ho0 : OwnF intR wO w.heap.size 3 (.slice (some ⟨bO, 0, none⟩) 0 0) [] [] := OwnF.made halO.blk (by have := halO.b_eq; omega)
  repeat refine zz ?_
  refine o_call rfl rfl rfl (spec_BestItems_ok (hL.keep hkO) (he.keep hkO) hn) ?_
  rintro vb w1 ⟨hk1, fb, hb, hfb⟩
  replace hkO := hkO.keep hk1
  replace ho0 := ho0.keep hk1
  have hout : ∀ b, (Value.slice (some ⟨bO, 0, none⟩) 0 0).ownBlock = some b → b ∉ fb := fun b hb hm => by
    have := hfb.ge hm; have := halO.blk.lt
    simp only [Value.ownBlock, Option.some.injEq] at hb; omega
  have hb16 := bestItems_len L e
  obtain ⟨Ab, nb, cb, rfl, hnb⟩ := hb.split
  generalize hB : bestItems L e = B at *
  have hlo : ∀ y, y ∈ B → 16 - (n : Int) ≤ prV L e y := fun y _ => by
    have := relL_le L e y (-1); unfold prV cntD; omega
  have hhi : ∀ y, y ∈ B → prV L e y < 16 - (n : Int) + ((n + 1 : Nat) : Int) := fun y _ => by
    unfold prV cntD; omega
  have hlz := lvls_zero (prV L e) B (16 - (n : Int))
  have hls := lvls_succ (prV L e) B (16 - (n : Int))
  have hll := lvls_len (prV L e) B (16 - (n : Int)) hlo
  repeat refine zz ?_
  refine W_loop (S := Nat × Value) (fun s => [(0, .slice A n c), (1, u), (5, s.2), (6, .slice Ab nb cb), (7, .int .i64 ((n : Int) - (s.1 : Int)))]) (fun s w' => Keep w w' ∧ (Sl intR w' (.slice Ab nb cb) B fb ∧ ∀ b, s.2.ownBlock = some b → b ∉ fb) ∧ s.1 ≤ n + 1 ∧ OwnF intR w' w.heap.size 3 s.2 (lvls (prV L e) B (16 - (n : Int)) s.1) []) (fun s => n + 1 - s.1) (0, _) ⟨rfl, rfl, rfl, rfl, find_int rfl (by dsimp only; omega), trivial⟩ ⟨hkO, ⟨hb, hout⟩, by omega, by rw [hlz]; exact ho0⟩ ?_
  clear ho0 hb hout
  rintro ⟨j, vo⟩ wa ⟨hka, ⟨hb, hout⟩, hj, hoa⟩
  dsimp only at hj hoa hout ⊢
  have hlj := hll j
  repeat refine zz ?_
  refine W_cond rfl (fun hc => ?_) (fun hc => ?_)
  · have hjn : j ≤ n := by simp at hc; omega
    have hlsj := hls j
    repeat refine zz ?_
    refine W_loop (S := Nat × Value) (fun s => [(0, .slice A n c), (1, u), (5, s.2), (6, .slice Ab nb cb), (7, .int .i64 ((n : Int) - (j : Int))), (8, .int .i64 (s.1 : Int))]) (fun s w' => Keep w w' ∧ (Sl intR w' (.slice Ab nb cb) B fb ∧ ∀ b, s.2.ownBlock = some b → b ∉ fb) ∧ s.1 ≤ nb ∧ OwnF intR w' w.heap.size 3 s.2 (lvls (prV L e) B (16 - (n : Int)) j ++ (B.take s.1).filter (fun y => decide (prV L e y = 16 - (n : Int) + (j : Int)))) []) (fun s => nb - s.1) (0, _) ⟨rfl, rfl, rfl, rfl, rfl, rfl, trivial⟩ ⟨hka, ⟨hb, hout⟩, by omega, by simpa using hoa⟩ ?_
    clear hoa hka hb hout
    rintro ⟨i, vi⟩ wb ⟨hkb, ⟨hbb, hout⟩, hi, hob⟩
    dsimp only at hi hob hout ⊢
    have hfl : ((B.take i).filter (fun y => decide (prV L e y = 16 - (n : Int) + (j : Int)))).length ≤ 16 := by
      have := List.length_filter_le (fun y => decide (prV L e y = 16 - (n : Int) + (j : Int))) (B.take i)
      rw [List.length_take] at this; omega
    have hzb := hkb.size_le
    repeat refine zz ?_
    refine W_cond rfl (fun hd => ?_) (fun hd => ?_)
    · have hil : i < nb := by simp at hd; omega
      obtain ⟨hAb, hcb⟩ := hbb.getI (i := (i : Int)) (by omega) (by omega)
      have hstep := filt_step (p := fun y => decide (prV L e y = 16 - (n : Int) + (j : Int))) (xs := B) (k := i) (by omega)
      repeat refine zz ?_
      refine o_call rfl rfl rfl (spec_DominatedBy_ok (hL.keep hkb) (he.keep hkb) (gi B (i : Int)) hn) ?_
      rintro vd w2 ⟨hk2, fd, hsd, _⟩
      obtain ⟨Ad, nd, cd, rfl, hnd⟩ := hsd.split
      have hob2 := hob.keep hk2
      have hbb2 := hbb.keep hk2
      have hiff : ((nd : Int) = (n : Int) - (j : Int)) ↔ (prV L e (gi B (i : Int)) = 16 - (n : Int) + (j : Int)) := by unfold prV cntD; omega
      repeat refine zz ?_
      refine W_cond rfl (fun hq => ?_) (fun hq => ?_)
      · simp only [decide_eq_true_eq] at hq
        rw [if_pos (by simpa using hiff.1 hq)] at hstep
        obtain ⟨hAb2, hcb2⟩ := hbb2.getI (i := (i : Int)) (by omega) (by omega)
        repeat refine zz ?_
        refine o_buildSlice rfl rfl rfl rfl rfl (by simp [Value.cells]) (by omega) ?_
        intro b5 w5 hal5
        have hk5 := (hkb.keep hk2).keep hal5.kp
        have ho5 := hob2.keep hal5.kp
        have hz5 := hk5.size_le
        repeat refine zz ?_
        refine o_appendG (R := intR) (M := _) (gi := []) rfl rfl rfl rfl rfl (by decide) ho5 (Blk.src (xs := [gi B (i : Int)]) hal5.blk (Rows.ints _ _)) rfl (Fresh.nil _ _) (fun b hb => by simp at hb) (fun b hb => (ho5.lt hb).2) (fun b hb => by simp at hb) (by simp only [List.length_append, List.length_cons, List.length_nil]; omega) (by simp only [List.length_append, List.length_cons, List.length_nil]; omega) (by omega) ?_
        intro vN wN hoN hbN hgN hvN
        have hs5 := hbb2.keep hal5.kp
        have hown := fun c hc => (ho5.lt (b := c) hc).1
        repeat refine zz ?_
        refine ⟨(i + 1, vN), ⟨rfl, rfl, rfl, rfl, rfl, rfl, trivial⟩, ⟨hk5.grown hgN hown, ⟨hs5.grownN hgN hout, out_next hs5 hout hvN⟩, by dsimp only; omega, ?_⟩, by dsimp only; omega⟩
        dsimp only
        rw [hstep]; simpa only [List.append_assoc, List.append_nil] using hoN
      · simp only [decide_eq_false_iff_not] at hq
        rw [if_neg (by simp; exact fun h => hq (hiff.2 h)), List.append_nil] at hstep
        repeat refine zz ?_
        refine ⟨(i + 1, vi), ⟨rfl, rfl, rfl, rfl, rfl, rfl, trivial⟩, ⟨hkb.keep hk2, ⟨hbb2, hout⟩, by dsimp only; omega, ?_⟩, by dsimp only; omega⟩
        dsimp only
        rw [hstep]; exact hob2
    · simp at hd
      obtain rfl : nb = i := by omega
      rw [hnb, List.take_length, ← hlsj] at hob
      repeat refine zz ?_
      exact ⟨(j + 1, vi), ⟨rfl, rfl, rfl, rfl, find_int rfl (by dsimp only; omega), trivial⟩, ⟨hkb, ⟨hbb, hout⟩, by dsimp only; omega, hob⟩, by dsimp only; omega⟩
  · simp at hc
    obtain rfl : j = n + 1 := by omega
    obtain ⟨fo, hso, hfo⟩ := hoa.sl (by decide)
    repeat refine zz ?_
    exact ret1 rfl rfl ⟨hka, fo, by rw [prog, hB, ← lvls_all (prV L e) B (16 - (n : Int)) hlo hhi]; exact hso, hfo⟩

theorem progressive1_ok {w : World} {vl ve : Value} {L : List Itm} {e : List Nod} {fl fe : List Nat} {b2 b3 : Nat} {x y : Int} (hL : Sl itemR w vl L fl) (he : Sl nodeR w ve e fe) (h2 : Blk w b2 27 [vl]) (h3 : Blk w b3 57 [ve]) (hn : e.length + totN e ≤ 1048576) :
    Run Try.prog 190 [.int .i64 x, .int .i64 y, .pointer (some ⟨b2, 0, none⟩), .pointer (some ⟨b3, 0, none⟩)] w (fun r w' => r = .int .i64 (prV L e x - prV L e y) ∧ Keep w w') := by
  have c2 := h2.cell (i := 0) rfl
  have c3 := h3.cell (i := 0) rfl
  have lx := relL_len L e x (-1)
  have ly := relL_len L e y (-1)
  refine Run_intro Try.func190 (by unfold CallOk; kernel_rfl) rfl Try.ntmps190 (Nat.le_of_ble_eq_true rfl) ?_
  simp only [penv, Nat.reduceAdd, Nat.zero_add]
  repeat refine zz ?_
  refine W_draw (Keep w) (by kernel_rfl) ?_
  have hS : Keep w (World.drew w) := Keep.drew w
  first|refine d_o 0 ?_|refine d_a 0 ?_|refine d_s 0 ?_|refine d_n 0 ?_|refine d_i 0 ?_|refine d_f 0 ?_|refine d_b 0 ?_|refine d_d 0 ?_|refine d_l1 0 ?_|refine d_l2 0 ?_|refine d_l3 0 ?_|refine d_l4 0 ?_|refine d_l5 0 ?_|refine d_l6 0 ?_|refine d_l7 0 ?_|refine d_l8 0 ?_|refine d_l9 0 ?_|refine d_g 0 ?_|refine d_q 0 ?_|refine d_e 0 ?_|refine d_j 0 ?_
  first|refine d_o 1 ?_|refine d_a 1 ?_|refine d_s 1 ?_|refine d_n 1 ?_|refine d_i 1 ?_|refine d_f 1 ?_|refine d_b 1 ?_|refine d_d 1 ?_|refine d_l1 1 ?_|refine d_l2 1 ?_|refine d_l3 1 ?_|refine d_l4 1 ?_|refine d_l5 1 ?_|refine d_l6 1 ?_|refine d_l7 1 ?_|refine d_l8 1 ?_|refine d_l9 1 ?_|refine d_g 1 ?_|refine d_q 1 ?_|refine d_e 1 ?_|refine d_j 1 ?_
  first|refine d_o 2 ?_|refine d_a 2 ?_|refine d_s 2 ?_|refine d_n 2 ?_|refine d_i 2 ?_|refine d_f 2 ?_|refine d_b 2 ?_|refine d_d 2 ?_|refine d_l1 2 ?_|refine d_l2 2 ?_|refine d_l3 2 ?_|refine d_l4 2 ?_|refine d_l5 2 ?_|refine d_l6 2 ?_|refine d_l7 2 ?_|refine d_l8 2 ?_|refine d_l9 2 ?_|refine d_g 2 ?_|refine d_q 2 ?_|refine d_e 2 ?_|refine d_j 2 ?_
  first|refine d_o 5 ?_|refine d_a 5 ?_|refine d_s 5 ?_|refine d_n 5 ?_|refine d_i 5 ?_|refine d_f 5 ?_|refine d_b 5 ?_|refine d_d 5 ?_|refine d_l1 5 ?_|refine d_l2 5 ?_|refine d_l3 5 ?_|refine d_l4 5 ?_|refine d_l5 5 ?_|refine d_l6 5 ?_|refine d_l7 5 ?_|refine d_l8 5 ?_|refine d_l9 5 ?_|refine d_g 5 ?_|refine d_q 5 ?_|refine d_e 5 ?_|refine d_j 5 ?_
  first|refine d_o 6 ?_|refine d_a 6 ?_|refine d_s 6 ?_|refine d_n 6 ?_|refine d_i 6 ?_|refine d_f 6 ?_|refine d_b 6 ?_|refine d_d 6 ?_|refine d_l1 6 ?_|refine d_l2 6 ?_|refine d_l3 6 ?_|refine d_l4 6 ?_|refine d_l5 6 ?_|refine d_l6 6 ?_|refine d_l7 6 ?_|refine d_l8 6 ?_|refine d_l9 6 ?_|refine d_g 6 ?_|refine d_q 6 ?_|refine d_e 6 ?_|refine d_j 6 ?_
  first|refine d_o 7 ?_|refine d_a 7 ?_|refine d_s 7 ?_|refine d_n 7 ?_|refine d_i 7 ?_|refine d_f 7 ?_|refine d_b 7 ?_|refine d_d 7 ?_|refine d_l1 7 ?_|refine d_l2 7 ?_|refine d_l3 7 ?_|refine d_l4 7 ?_|refine d_l5 7 ?_|refine d_l6 7 ?_|refine d_l7 7 ?_|refine d_l8 7 ?_|refine d_l9 7 ?_|refine d_g 7 ?_|refine d_q 7 ?_|refine d_e 7 ?_|refine d_j 7 ?_
  refine WD_one 3 (by kernel_rfl) rfl ?_
  refine o_call rfl rfl rfl (impl_DominatedBy_ok (hL.keep hS) (he.keep hS) y hn) ?_
  rintro v1 w1 ⟨hk1, f1, hs1, _⟩
  obtain ⟨A1, n1, c1, rfl, hn1⟩ := hs1.split
  replace hS := hS.keep hk1
  refine WL_end ⟨hS, ?_⟩
  first|refine d_o 4 ?_|refine d_a 4 ?_|refine d_s 4 ?_|refine d_n 4 ?_|refine d_i 4 ?_|refine d_f 4 ?_|refine d_b 4 ?_|refine d_d 4 ?_|refine d_l1 4 ?_|refine d_l2 4 ?_|refine d_l3 4 ?_|refine d_l4 4 ?_|refine d_l5 4 ?_|refine d_l6 4 ?_|refine d_l7 4 ?_|refine d_l8 4 ?_|refine d_l9 4 ?_|refine d_g 4 ?_|refine d_q 4 ?_|refine d_e 4 ?_|refine d_j 4 ?_
  refine WD_one 8 (by kernel_rfl) rfl ?_
  refine o_call rfl rfl rfl (impl_DominatedBy_ok (hL.keep hS) (he.keep hS) x hn) ?_
  rintro v2 w2 ⟨hk2, f2, hs2, _⟩
  obtain ⟨A2, n2, c2', rfl, hn2⟩ := hs2.split
  replace hS := hS.keep hk2
  refine WL_end ⟨hS, ?_⟩
  first|refine d_o 9 ?_|refine d_a 9 ?_|refine d_s 9 ?_|refine d_n 9 ?_|refine d_i 9 ?_|refine d_f 9 ?_|refine d_b 9 ?_|refine d_d 9 ?_|refine d_l1 9 ?_|refine d_l2 9 ?_|refine d_l3 9 ?_|refine d_l4 9 ?_|refine d_l5 9 ?_|refine d_l6 9 ?_|refine d_l7 9 ?_|refine d_l8 9 ?_|refine d_l9 9 ?_|refine d_g 9 ?_|refine d_q 9 ?_|refine d_e 9 ?_|refine d_j 9 ?_
  first|refine d_o 10 ?_|refine d_a 10 ?_|refine d_s 10 ?_|refine d_n 10 ?_|refine d_i 10 ?_|refine d_f 10 ?_|refine d_b 10 ?_|refine d_d 10 ?_|refine d_l1 10 ?_|refine d_l2 10 ?_|refine d_l3 10 ?_|refine d_l4 10 ?_|refine d_l5 10 ?_|refine d_l6 10 ?_|refine d_l7 10 ?_|refine d_l8 10 ?_|refine d_l9 10 ?_|refine d_g 10 ?_|refine d_q 10 ?_|refine d_e 10 ?_|refine d_j 10 ?_
  first|refine d_o 11 ?_|refine d_a 11 ?_|refine d_s 11 ?_|refine d_n 11 ?_|refine d_i 11 ?_|refine d_f 11 ?_|refine d_b 11 ?_|refine d_d 11 ?_|refine d_l1 11 ?_|refine d_l2 11 ?_|refine d_l3 11 ?_|refine d_l4 11 ?_|refine d_l5 11 ?_|refine d_l6 11 ?_|refine d_l7 11 ?_|refine d_l8 11 ?_|refine d_l9 11 ?_|refine d_g 11 ?_|refine d_q 11 ?_|refine d_e 11 ?_|refine d_j 11 ?_
  refine WD_done (by kernel_rfl) ?_
  repeat refine zz ?_
  exact ret1 rfl rfl ⟨by unfold prV cntD; rw [← hn1, ← hn2, show (n1 : Int) - n2 = 16 - (n2 : Int) - (16 - (n1 : Int)) by omega], hS⟩

set_option maxHeartbeats 2000000 in
theorem impl_ProgressiveBest_ok {w : World} {v u : Value} {L : List Itm} {e : List Nod} {fp gp : List Nat} (hL : Sl itemR w v L fp) (he : Sl nodeR w u e gp) (hn : e.length + totN e ≤ 1048576) :
    Run Try.prog 82 [v, u] w (fun r w' => Keep w w' ∧ ∃ fp, Sl intR w' r (prog L e) fp ∧ Fresh w.heap.size w' fp) := by
  have ol := hL.oneCell
  obtain ⟨A, n, c, rfl, hnx⟩ := hL.split
  obtain ⟨Au, nu, cu, rfl, hnu⟩ := he.split
  refine Run_intro Try.func82 (by unfold CallOk; kernel_rfl) rfl Try.ntmps82 (Nat.le_of_ble_eq_true rfl) ?_
  simp only [penv, Nat.reduceAdd, Nat.zero_add]
  repeat refine zz ?_
  refine o_box rfl rfl rfl ?_
  intro b2 w1 hal1
  have h2 : Blk w1 b2 27 [.slice A n c] := hal1.blk
  have hk := hal1.kp
  replace hL := hL.keep hal1.kp
  replace he := he.keep hal1.kp
  repeat refine zz ?_
  refine o_box rfl rfl rfl ?_
  intro b3 w2 hal2
  have h3 : Blk w2 b3 57 [.slice Au nu cu] := hal2.blk
  replace hL := hL.keep hal2.kp
  replace he := he.keep hal2.kp
  replace h2 := h2.keep hal2.kp
  replace hk := hk.keep hal2.kp
  have c2 := h2.cell (i := 0) rfl
  have c3 := h3.cell (i := 0) rfl
  repeat refine zz ?_
  refine o_call rfl rfl rfl (impl_BestItems_own hL he hn) ?_
  rintro vb w3 ⟨hk3, ho⟩
  have hz2 := hk.size_le
  have dl := hL.dom
  have de := he.dom
  have l2 := h2.lt
  have l3 := h3.lt
  replace hL := hL.keep hk3
  replace he := he.keep hk3
  replace h2 := h2.keep hk3
  replace h3 := h3.keep hk3
  replace hk := hk.keep hk3
  clear c2 c3
  have hb16 := bestItems_len L e
  rcases ho.rowI with ⟨rfl, hnil⟩ | ⟨bo, cap, pad, rfl, hbo, hbk, hle, hcm⟩
  · repeat refine zz ?_
    refine WL_pure rfl rfl (o_makeFunc rfl rfl) ?_
    repeat refine zz ?_
    refine o_call rfl rfl rfl sortStableI0_ok ?_
    rintro _ _ rfl
    repeat refine zz ?_
    have e0 : prog L e = [] := List.eq_nil_of_length_eq_zero (by rw [prog, sortP_len, hnil]; rfl)
    exact ret1 rfl rfl ⟨hk, [], by rw [e0]; exact Sl.nil (by omega) _, Fresh.nil _ _⟩
  · repeat refine zz ?_
    refine WL_pure rfl rfl (o_makeFunc rfl rfl) ?_
    repeat refine zz ?_
    refine o_call rfl rfl rfl (sortStableI_ok (v := prV L e) (I := fun w1 => Sl itemR w1 (.slice A n c) L fp ∧ Sl nodeR w1 (.slice Au nu cu) e gp ∧ Blk w1 b2 27 [.slice A n c] ∧ Blk w1 b3 57 [.slice Au nu cu])
      (fun w1 w2 h k => ⟨h.1.keep k, h.2.1.keep k, h.2.2.1.keep k, h.2.2.2.keep k⟩)
      (fun w1 w2 cs h k => ⟨h.1.upd k (fun hm => by have := dl _ hm; omega), h.2.1.upd k (fun hm => by have := de _ hm; omega), h.2.2.1.upd k (by omega), h.2.2.2.upd k (by omega)⟩)
      (fun w1 i j h _ _ => progressive1_ok h.1 h.2.1 h.2.2.1 h.2.2.2 hn)
      (fun i hi => by have := relL_len L e i (-1); unfold prV cntD; omega)
      hbk rfl (by omega) ⟨hL, he, h2, h3⟩) ?_
    rintro _ w5 ⟨hb5, hw5, _⟩
    repeat refine zz ?_
    have hl : (prog L e).length = (bestItems L e).length := by rw [prog, sortP_len]
    have hsl : Sl intR w5 (.slice (some ⟨bo, 0, none⟩) (bestItems L e).length cap) (prog L e) [bo] := Sl.ofInts hb5 (fun i hi => by
      have hi2 : i < (sortP (prV L e) (bestItems L e)).length := hi
      rw [List.getElem?_append_left (by rw [List.length_map]; exact hi2), List.getElem?_map, prog, gi_lt hi2, List.getElem?_eq_getElem hi2]; rfl) hl.symm (by omega) (by omega)
    exact ret1 rfl rfl ⟨hw5.keep hk (fun b hb => by simp at hb; omega), _, hsl, Fresh.one hb5 (by omega)⟩
end Go.E

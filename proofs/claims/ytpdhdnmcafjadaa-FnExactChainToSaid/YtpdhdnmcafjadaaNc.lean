/-
  Contracts of the laws' helpers on lists of nodes: copies. Conditions: as stated.
-/
import Derived.Test.YtpdhdnmcafjadaaNb
set_option linter.unusedVariables false
set_option linter.unusedSimpArgs false
namespace Go.E
open Go Go.RowKit Go.Proofs
attribute [local irreducible] W WL WD WE thenE inE retQ PureOp Keep Cell Cells Blk Sl Rows Own Src Fresh

set_option maxHeartbeats 1000000 in
theorem toNodeS_ok {w : World} {v : Value} {L : List Nod} {fp : List Nat} (hx : Sl nodeR w v L fp) (hn : L.length + totN L ≤ 1048576) :
    Run Try.prog 42 [v] w (fun r w' => Keep w w' ∧ ∃ fp', Sl nodeR w' r L fp' ∧ Fresh w.heap.size w' fp') := by
  obtain ⟨A, n, c, rfl, hnx⟩ := hx.split
  refine Run_intro Try.func42 (by unfold CallOk; kernel_rfl) rfl Try.ntmps42 (Nat.le_of_ble_eq_true rfl) ?_
  simp only [penv, Nat.reduceAdd, Nat.zero_add]
  repeat (first|refine z_1 ?_|refine z_2 ?_|refine s_o ?_|refine z_3 ?_|refine z_4 ?_|refine z_5 ?_|refine z_6 ?_|refine z_7 ?_|refine z_8 ?_|refine z_9 ?_|refine z_a ?_|refine z_b ?_|refine z_d ?_|refine z_e ?_|refine z_f ?_|refine z_g ?_|refine z_h ?_|refine z_i ?_|refine z_j ?_|refine s_a ?_|refine s_s ?_|refine s_n ?_|refine s_i ?_|refine s_f ?_|refine s_b ?_|refine s_d ?_|refine s_l1 ?_|refine s_l2 ?_|refine s_l3 ?_|refine s_l4 ?_|refine s_l5 ?_|refine s_l6 ?_|refine s_l7 ?_|refine s_l8 ?_|refine s_l9 ?_|refine s_g ?_|refine s_q ?_|refine s_e ?_|refine s_j ?_)
  refine o_makeSlice (l := n) (c := n) rfl rfl rfl rfl (Nat.le_refl _) (by omega) (by omega) ?_
  intro b w1 zs hal hzl hz0
  have hk0 := hal.kp
  have hb0 := hal.blk
  have hbe := hal.b_eq
  have hzb := hal.size
  repeat (first|refine z_1 ?_|refine z_2 ?_|refine s_o ?_|refine z_3 ?_|refine z_4 ?_|refine z_5 ?_|refine z_6 ?_|refine z_7 ?_|refine z_8 ?_|refine z_9 ?_|refine z_a ?_|refine z_b ?_|refine z_d ?_|refine z_e ?_|refine z_f ?_|refine z_g ?_|refine z_h ?_|refine z_i ?_|refine z_j ?_|refine s_a ?_|refine s_s ?_|refine s_n ?_|refine s_i ?_|refine s_f ?_|refine s_b ?_|refine s_d ?_|refine s_l1 ?_|refine s_l2 ?_|refine s_l3 ?_|refine s_l4 ?_|refine s_l5 ?_|refine s_l6 ?_|refine s_l7 ?_|refine s_l8 ?_|refine s_l9 ?_|refine s_g ?_|refine s_q ?_|refine s_e ?_|refine s_j ?_)
  refine W_loop (S := Nat × List Value × List Nat) (fun s => [(0, .slice A n c), (3, .slice (some ⟨b, 0, none⟩) n n), (4, .int .i64 (s.1 : Int))]) (fun s w' => Keep w w' ∧ s.1 ≤ n ∧ Blk w' b 85 s.2.1 ∧ s.2.1.length = n * 6 ∧ Rows nodeR w' (L.take s.1) (s.2.1.take (s.1 * 6)) s.2.2 ∧ Fresh w1.heap.size w' s.2.2) (fun s => n - s.1) (0, zs, []) ⟨rfl, rfl, rfl, trivial⟩ ⟨hk0, Nat.zero_le _, hb0, hzl, by simp [Rows], Fresh.nil _ _⟩ ?_
  rintro ⟨k, cs, fi⟩ w2 ⟨hk2, hk, hb2, hlen, hrows, hfr⟩
  dsimp only at hk hlen hrows hb2 hfr ⊢
  have hx2 := hx.keep hk2
  repeat (first|refine z_1 ?_|refine z_2 ?_|refine s_o ?_|refine z_3 ?_|refine z_4 ?_|refine z_5 ?_|refine z_6 ?_|refine z_7 ?_|refine z_8 ?_|refine z_9 ?_|refine z_a ?_|refine z_b ?_|refine z_d ?_|refine z_e ?_|refine z_f ?_|refine z_g ?_|refine z_h ?_|refine z_i ?_|refine z_j ?_|refine s_a ?_|refine s_s ?_|refine s_n ?_|refine s_i ?_|refine s_f ?_|refine s_b ?_|refine s_d ?_|refine s_l1 ?_|refine s_l2 ?_|refine s_l3 ?_|refine s_l4 ?_|refine s_l5 ?_|refine s_l6 ?_|refine s_l7 ?_|refine s_l8 ?_|refine s_l9 ?_|refine s_g ?_|refine s_q ?_|refine s_e ?_|refine s_j ?_)
  refine W_cond rfl (fun hc => ?_) (fun hc => ?_)
  · have hkn : k < n := by simp at hc; omega
    obtain ⟨hA, vl, ul, f1, f2, hcell, hvl, hul, _⟩ := node_get hx2 (i := (k : Int)) (by omega) (by omega)
    have hle := totN_each (L := L) (k := k) (by omega)
    repeat (first|refine z_1 ?_|refine z_2 ?_|refine s_o ?_|refine z_3 ?_|refine z_4 ?_|refine z_5 ?_|refine z_6 ?_|refine z_7 ?_|refine z_8 ?_|refine z_9 ?_|refine z_a ?_|refine z_b ?_|refine z_d ?_|refine z_e ?_|refine z_f ?_|refine z_g ?_|refine z_h ?_|refine z_i ?_|refine z_j ?_|refine s_a ?_|refine s_s ?_|refine s_n ?_|refine s_i ?_|refine s_f ?_|refine s_b ?_|refine s_d ?_|refine s_l1 ?_|refine s_l2 ?_|refine s_l3 ?_|refine s_l4 ?_|refine s_l5 ?_|refine s_l6 ?_|refine s_l7 ?_|refine s_l8 ?_|refine s_l9 ?_|refine s_g ?_|refine s_q ?_|refine s_e ?_|refine s_j ?_)
    refine o_call rfl rfl rfl (toNode_ok hvl hul (by omega)) ?_
    rintro _ w3 ⟨hk3, v3, u3, g1, g2, rfl, hv3, hu3, hf3⟩
    have hz2 := hb2.lt
    have hdf := hrows.dom
    replace hk2 := hk2.keep hk3
    replace hb2 := hb2.keep hk3
    replace hfr := hfr.keep hk3
    replace hrows := hrows.keep hk3
    have ov := hv3.oneCell
    have ou := hu3.oneCell
    repeat (first|refine z_1 ?_|refine z_2 ?_|refine s_o ?_|refine z_3 ?_|refine z_4 ?_|refine z_5 ?_|refine z_6 ?_|refine z_7 ?_|refine z_8 ?_|refine z_9 ?_|refine z_a ?_|refine z_b ?_|refine z_d ?_|refine z_e ?_|refine z_f ?_|refine z_g ?_|refine z_h ?_|refine z_i ?_|refine z_j ?_|refine s_a ?_|refine s_s ?_|refine s_n ?_|refine s_i ?_|refine s_f ?_|refine s_b ?_|refine s_d ?_|refine s_l1 ?_|refine s_l2 ?_|refine s_l3 ?_|refine s_l4 ?_|refine s_l5 ?_|refine s_l6 ?_|refine s_l7 ?_|refine s_l8 ?_|refine s_l9 ?_|refine s_g ?_|refine s_q ?_|refine s_e ?_|refine s_j ?_)
    refine o_storeS (b := b) (off := k * 6) rfl rfl (by rw [ea_blk, Nat.zero_add]) rfl (by repeat (first | exact ones_nil | refine ones_cons (by first | rfl | assumption) ?_)) rfl hb2 (by simp only [List.length_cons, List.length_nil]; omega) ?_
    intro w4 hu4
    have hbf3 : b ∉ g1 ++ g2 := fun hm => by have := hf3.ge hm; omega
    have hbfi : b ∉ fi := fun hm => by have := hfr.ge hm; omega
    have hl1 : (cs.take (k * 6)).length = k * 6 := by rw [List.length_take]; omega
    have hv4 := hv3.upd hu4 (fun hm => hbf3 (List.mem_append.2 (.inl hm)))
    have hu4' := hu3.upd hu4 (fun hm => hbf3 (List.mem_append.2 (.inr hm)))
    repeat (first|refine z_1 ?_|refine z_2 ?_|refine s_o ?_|refine z_3 ?_|refine z_4 ?_|refine z_5 ?_|refine z_6 ?_|refine z_7 ?_|refine z_8 ?_|refine z_9 ?_|refine z_a ?_|refine z_b ?_|refine z_d ?_|refine z_e ?_|refine z_f ?_|refine z_g ?_|refine z_h ?_|refine z_i ?_|refine z_j ?_|refine s_a ?_|refine s_s ?_|refine s_n ?_|refine s_i ?_|refine s_f ?_|refine s_b ?_|refine s_d ?_|refine s_l1 ?_|refine s_l2 ?_|refine s_l3 ?_|refine s_l4 ?_|refine s_l5 ?_|refine s_l6 ?_|refine s_l7 ?_|refine s_l8 ?_|refine s_l9 ?_|refine s_g ?_|refine s_q ?_|refine s_e ?_|refine s_j ?_)
    refine ⟨(k + 1, cs.take (k * 6) ++ [.int .i64 (gi L (k : Int)).op, .int .i64 (gi L (k : Int)).wish.kind, .int .i64 (gi L (k : Int)).wish.field, .int .i64 (gi L (k : Int)).wish.value, v3, u3] ++ cs.drop (k * 6 + 6), fi ++ (g1 ++ g2)), ⟨rfl, rfl, rfl, trivial⟩, ⟨hk2.upd hu4 (by omega), by dsimp only; omega, hu4.blk, ?_, ?_, (hfr.upd hu4).append ((hf3.mono (by have := hk2.size_le; have := hb2.lt; omega)).upd hu4) fun b' h1 h2 => by have := hf3.ge h2; have := hdf b' h1; omega⟩, by dsimp only; omega⟩
    · simp [hl1, hlen]; omega
    · dsimp only
      have e1 : (cs.take (k * 6) ++ [Value.int .i64 (gi L (k : Int)).op, .int .i64 (gi L (k : Int)).wish.kind, .int .i64 (gi L (k : Int)).wish.field, .int .i64 (gi L (k : Int)).wish.value, v3, u3] ++ cs.drop (k * 6 + 6)).take ((k + 1) * 6) = cs.take (k * 6) ++ [Value.int .i64 (gi L (k : Int)).op, .int .i64 (gi L (k : Int)).wish.kind, .int .i64 (gi L (k : Int)).wish.field, .int .i64 (gi L (k : Int)).wish.value, v3, u3] := List.take_left' (by simp [hl1]; omega)
      rw [take_gi (show k < L.length by omega)]
      refine e1.symm ▸ ?_
      refine (hrows.same fun b' hb' => hu4.other b' fun e => hbfi (e ▸ hb')).append (Rows.single (R := nodeR) ⟨_, rfl, v3, u3, g1, g2, rfl, rfl, hv4, hu4'⟩)
  · simp at hc
    obtain rfl : k = n := by omega
    repeat (first|refine z_1 ?_|refine z_2 ?_|refine s_o ?_|refine z_3 ?_|refine z_4 ?_|refine z_5 ?_|refine z_6 ?_|refine z_7 ?_|refine z_8 ?_|refine z_9 ?_|refine z_a ?_|refine z_b ?_|refine z_d ?_|refine z_e ?_|refine z_f ?_|refine z_g ?_|refine z_h ?_|refine z_i ?_|refine z_j ?_|refine s_a ?_|refine s_s ?_|refine s_n ?_|refine s_i ?_|refine s_f ?_|refine s_b ?_|refine s_d ?_|refine s_l1 ?_|refine s_l2 ?_|refine s_l3 ?_|refine s_l4 ?_|refine s_l5 ?_|refine s_l6 ?_|refine s_l7 ?_|refine s_l8 ?_|refine s_l9 ?_|refine s_g ?_|refine s_q ?_|refine s_e ?_|refine s_j ?_)
    rw [List.take_of_length_le (show L.length ≤ k by omega)] at hrows
    refine ret1 rfl rfl ⟨hk2, b :: fi, ?_, (Fresh.one hb2 (by omega)).append (hfr.mono (by omega)) fun b' h1 h2 => ?_⟩
    · have := Sl.ofBlk (c := k) hb2 hrows (fun j u hu => by
        rw [List.take_of_length_le (by omega)] at hu; exact hu) (by omega)
      rwa [← hnx] at this
    · have : b' = b := by simpa using h1
      subst this
      have := hfr.ge h2; omega

def totNS : List (List Nod) → Nat
  | [] => 0
  | x :: r => x.length + totN x + totNS r
theorem totNS_append (a b : List (List Nod)) : totNS (a ++ b) = totNS a + totNS b := by
  induction a with
  | nil => simp [totNS]
  | cons x r ih => simp only [List.cons_append, totNS, ih]; omega
theorem totNS_take {L : List (List Nod)} {k : Nat} (h : k < L.length) : totNS (L.take (k + 1)) = totNS (L.take k) + ((gi L (k : Int)).length + totN (gi L (k : Int))) := by
  rw [take_gi h, totNS_append]; simp [totNS]
theorem totNS_take_le (L : List (List Nod)) (k : Nat) : totNS (L.take k) ≤ totNS L := by
  have := totNS_append (L.take k) (L.drop k)
  rw [List.take_append_drop] at this; omega
theorem totNS_each {L : List (List Nod)} {k : Nat} (h : k < L.length) : (gi L (k : Int)).length + totN (gi L (k : Int)) ≤ totNS L := by
  have := totNS_take h; have := totNS_take_le L (k + 1); omega
theorem ns_get {w : World} {A : Option Addr} {n c : Nat} {xss : List (List Nod)} {fp : List Nat} (h : Sl (slR nodeR) w (.slice A n c) xss fp) {i : Int} (h0 : 0 ≤ i) (hi : i < n) :
    A.isSome = true ∧ ∃ u f, Cell w (ea A 1 i) u ∧ Sl nodeR w u (gi xss i) f ∧ (∀ b, b ∈ f → b ∈ fp) := by
  obtain ⟨hA, cs, f, ⟨u, rfl, hu⟩, hf, hc⟩ := h.get h0 hi
  exact ⟨hA, u, f, hc.one, hu, hf⟩

theorem szNodeSS_ok {w : World} {v : Value} {L : List (List Nod)} {fp : List Nat} {k : Int} (hx : Sl (slR nodeR) w v L fp) (h0 : 0 ≤ k) (h1 : k ≤ 1048576) : Run Try.prog 33 [v, .int .i64 k] w (fun r w' => r = .int .i64 (szN k (L.length + totNS L)) ∧ Keep w w') := by
  have hn := hx.le
  obtain ⟨A, n, c, rfl, hnx⟩ := hx.split
  refine Run_intro Try.func33 (by unfold CallOk; kernel_rfl) rfl Try.ntmps33 (Nat.le_of_ble_eq_true rfl) ?_
  simp only [penv, Nat.reduceAdd, Nat.zero_add]
  repeat (first|refine z_1 ?_|refine z_2 ?_|refine s_o ?_|refine z_3 ?_|refine z_4 ?_|refine z_5 ?_|refine z_6 ?_|refine z_7 ?_|refine z_8 ?_|refine z_9 ?_|refine z_a ?_|refine z_b ?_|refine z_d ?_|refine z_e ?_|refine z_f ?_|refine z_g ?_|refine z_h ?_|refine z_i ?_|refine z_j ?_|refine s_a ?_|refine s_s ?_|refine s_n ?_|refine s_i ?_|refine s_f ?_|refine s_b ?_|refine s_d ?_|refine s_l1 ?_|refine s_l2 ?_|refine s_l3 ?_|refine s_l4 ?_|refine s_l5 ?_|refine s_l6 ?_|refine s_l7 ?_|refine s_l8 ?_|refine s_l9 ?_|refine s_g ?_|refine s_q ?_|refine s_e ?_|refine s_j ?_)
  refine W_cond rfl (fun hc => ?_) (fun hc => ?_)
  · simp at hc
    repeat (first|refine z_1 ?_|refine z_2 ?_|refine s_o ?_|refine z_3 ?_|refine z_4 ?_|refine z_5 ?_|refine z_6 ?_|refine z_7 ?_|refine z_8 ?_|refine z_9 ?_|refine z_a ?_|refine z_b ?_|refine z_d ?_|refine z_e ?_|refine z_f ?_|refine z_g ?_|refine z_h ?_|refine z_i ?_|refine z_j ?_|refine s_a ?_|refine s_s ?_|refine s_n ?_|refine s_i ?_|refine s_f ?_|refine s_b ?_|refine s_d ?_|refine s_l1 ?_|refine s_l2 ?_|refine s_l3 ?_|refine s_l4 ?_|refine s_l5 ?_|refine s_l6 ?_|refine s_l7 ?_|refine s_l8 ?_|refine s_l9 ?_|refine s_g ?_|refine s_q ?_|refine s_e ?_|refine s_j ?_)
    exact ret1 rfl rfl ⟨by rw [szN, if_pos (by omega)], Keep.refl _⟩
  · simp at hc
    repeat (first|refine z_1 ?_|refine z_2 ?_|refine s_o ?_|refine z_3 ?_|refine z_4 ?_|refine z_5 ?_|refine z_6 ?_|refine z_7 ?_|refine z_8 ?_|refine z_9 ?_|refine z_a ?_|refine z_b ?_|refine z_d ?_|refine z_e ?_|refine z_f ?_|refine z_g ?_|refine z_h ?_|refine z_i ?_|refine z_j ?_|refine s_a ?_|refine s_s ?_|refine s_n ?_|refine s_i ?_|refine s_f ?_|refine s_b ?_|refine s_d ?_|refine s_l1 ?_|refine s_l2 ?_|refine s_l3 ?_|refine s_l4 ?_|refine s_l5 ?_|refine s_l6 ?_|refine s_l7 ?_|refine s_l8 ?_|refine s_l9 ?_|refine s_g ?_|refine s_q ?_|refine s_e ?_|refine s_j ?_)
    refine W_loop (S := Nat) (fun i => [(0, .slice A n c), (1, .int .i64 (k - n - (totNS (L.take i) : Int))), (5, .int .i64 (i : Int))]) (fun i w' => Keep w w' ∧ i ≤ n ∧ 0 ≤ k - n - (totNS (L.take i) : Int)) (fun i => n - i) 0 ⟨rfl, find_int rfl (by simp [totNS]), rfl, trivial⟩ ⟨Keep.refl _, Nat.zero_le _, by simp [totNS]; omega⟩ ?_
    rintro i w1 ⟨hk1, hi, hpos⟩
    replace hx := hx.keep hk1
    repeat (first|refine z_1 ?_|refine z_2 ?_|refine s_o ?_|refine z_3 ?_|refine z_4 ?_|refine z_5 ?_|refine z_6 ?_|refine z_7 ?_|refine z_8 ?_|refine z_9 ?_|refine z_a ?_|refine z_b ?_|refine z_d ?_|refine z_e ?_|refine z_f ?_|refine z_g ?_|refine z_h ?_|refine z_i ?_|refine z_j ?_|refine s_a ?_|refine s_s ?_|refine s_n ?_|refine s_i ?_|refine s_f ?_|refine s_b ?_|refine s_d ?_|refine s_l1 ?_|refine s_l2 ?_|refine s_l3 ?_|refine s_l4 ?_|refine s_l5 ?_|refine s_l6 ?_|refine s_l7 ?_|refine s_l8 ?_|refine s_l9 ?_|refine s_g ?_|refine s_q ?_|refine s_e ?_|refine s_j ?_)
    refine W_cond rfl (fun hc2 => ?_) (fun hc2 => ?_)
    · have hin : i < n := by simp at hc2; omega
      obtain ⟨hA, u, f, hcell, hu, _⟩ := ns_get hx (i := (i : Int)) (by omega) (by omega)
      have htk := totNS_take (L := L) (k := i) (by omega)
      have htl := totNS_take_le L (i + 1)
      repeat (first|refine z_1 ?_|refine z_2 ?_|refine s_o ?_|refine z_3 ?_|refine z_4 ?_|refine z_5 ?_|refine z_6 ?_|refine z_7 ?_|refine z_8 ?_|refine z_9 ?_|refine z_a ?_|refine z_b ?_|refine z_d ?_|refine z_e ?_|refine z_f ?_|refine z_g ?_|refine z_h ?_|refine z_i ?_|refine z_j ?_|refine s_a ?_|refine s_s ?_|refine s_n ?_|refine s_i ?_|refine s_f ?_|refine s_b ?_|refine s_d ?_|refine s_l1 ?_|refine s_l2 ?_|refine s_l3 ?_|refine s_l4 ?_|refine s_l5 ?_|refine s_l6 ?_|refine s_l7 ?_|refine s_l8 ?_|refine s_l9 ?_|refine s_g ?_|refine s_q ?_|refine s_e ?_|refine s_j ?_)
      refine o_call rfl rfl rfl (szNodeS_ok hu hpos (by omega)) ?_
      rintro _ w2 ⟨rfl, hk2⟩
      replace hk1 := hk1.keep hk2
      repeat (first|refine z_1 ?_|refine z_2 ?_|refine s_o ?_|refine z_3 ?_|refine z_4 ?_|refine z_5 ?_|refine z_6 ?_|refine z_7 ?_|refine z_8 ?_|refine z_9 ?_|refine z_a ?_|refine z_b ?_|refine z_d ?_|refine z_e ?_|refine z_f ?_|refine z_g ?_|refine z_h ?_|refine z_i ?_|refine z_j ?_|refine s_a ?_|refine s_s ?_|refine s_n ?_|refine s_i ?_|refine s_f ?_|refine s_b ?_|refine s_d ?_|refine s_l1 ?_|refine s_l2 ?_|refine s_l3 ?_|refine s_l4 ?_|refine s_l5 ?_|refine s_l6 ?_|refine s_l7 ?_|refine s_l8 ?_|refine s_l9 ?_|refine s_g ?_|refine s_q ?_|refine s_e ?_|refine s_j ?_)
      refine W_cond rfl (fun hc3 => ?_) (fun hc3 => ?_)
      · simp at hc3
        repeat (first|refine z_1 ?_|refine z_2 ?_|refine s_o ?_|refine z_3 ?_|refine z_4 ?_|refine z_5 ?_|refine z_6 ?_|refine z_7 ?_|refine z_8 ?_|refine z_9 ?_|refine z_a ?_|refine z_b ?_|refine z_d ?_|refine z_e ?_|refine z_f ?_|refine z_g ?_|refine z_h ?_|refine z_i ?_|refine z_j ?_|refine s_a ?_|refine s_s ?_|refine s_n ?_|refine s_i ?_|refine s_f ?_|refine s_b ?_|refine s_d ?_|refine s_l1 ?_|refine s_l2 ?_|refine s_l3 ?_|refine s_l4 ?_|refine s_l5 ?_|refine s_l6 ?_|refine s_l7 ?_|refine s_l8 ?_|refine s_l9 ?_|refine s_g ?_|refine s_q ?_|refine s_e ?_|refine s_j ?_)
        refine ret1 rfl rfl ⟨?_, hk1⟩
        unfold szN at hc3
        rw [szN, if_pos (by split at hc3 <;> omega)]
      · simp at hc3
        have hz : szN (k - n - (totNS (L.take i) : Int)) ((gi L (i : Int)).length + totN (gi L (i : Int))) = k - n - (totNS (L.take (i + 1)) : Int) := by
          unfold szN at hc3 ⊢
          split
          · rename_i h; rw [if_pos h] at hc3; omega
          · rw [htk]; omega
        rw [hz] at hc3
        repeat (first|refine z_1 ?_|refine z_2 ?_|refine s_o ?_|refine z_3 ?_|refine z_4 ?_|refine z_5 ?_|refine z_6 ?_|refine z_7 ?_|refine z_8 ?_|refine z_9 ?_|refine z_a ?_|refine z_b ?_|refine z_d ?_|refine z_e ?_|refine z_f ?_|refine z_g ?_|refine z_h ?_|refine z_i ?_|refine z_j ?_|refine s_a ?_|refine s_s ?_|refine s_n ?_|refine s_i ?_|refine s_f ?_|refine s_b ?_|refine s_d ?_|refine s_l1 ?_|refine s_l2 ?_|refine s_l3 ?_|refine s_l4 ?_|refine s_l5 ?_|refine s_l6 ?_|refine s_l7 ?_|refine s_l8 ?_|refine s_l9 ?_|refine s_g ?_|refine s_q ?_|refine s_e ?_|refine s_j ?_)
        exact ⟨i + 1, ⟨rfl, find_int rfl hz, rfl, trivial⟩, ⟨hk1, by omega, hc3⟩, by omega⟩
    · simp at hc2
      obtain rfl : i = n := by omega
      rw [List.take_of_length_le (by omega)] at hpos ⊢
      repeat (first|refine z_1 ?_|refine z_2 ?_|refine s_o ?_|refine z_3 ?_|refine z_4 ?_|refine z_5 ?_|refine z_6 ?_|refine z_7 ?_|refine z_8 ?_|refine z_9 ?_|refine z_a ?_|refine z_b ?_|refine z_d ?_|refine z_e ?_|refine z_f ?_|refine z_g ?_|refine z_h ?_|refine z_i ?_|refine z_j ?_|refine s_a ?_|refine s_s ?_|refine s_n ?_|refine s_i ?_|refine s_f ?_|refine s_b ?_|refine s_d ?_|refine s_l1 ?_|refine s_l2 ?_|refine s_l3 ?_|refine s_l4 ?_|refine s_l5 ?_|refine s_l6 ?_|refine s_l7 ?_|refine s_l8 ?_|refine s_l9 ?_|refine s_g ?_|refine s_q ?_|refine s_e ?_|refine s_j ?_)
      refine ret1 rfl rfl ⟨?_, hk1⟩
      rw [szN, if_neg (by omega)]
      congr 1; omega

theorem toNodeSS_ok {w : World} {v : Value} {L : List (List Nod)} {fp : List Nat} (hx : Sl (slR nodeR) w v L fp) (hn : L.length + totNS L ≤ 1048576) :
    Run Try.prog 36 [v] w (fun r w' => Keep w w' ∧ ∃ fp', Sl (slR nodeR) w' r L fp' ∧ Fresh w.heap.size w' fp') := by
  obtain ⟨A, n, c, rfl, hnx⟩ := hx.split
  refine Run_intro Try.func36 (by unfold CallOk; kernel_rfl) rfl Try.ntmps36 (Nat.le_of_ble_eq_true rfl) ?_
  simp only [penv, Nat.reduceAdd, Nat.zero_add]
  repeat (first|refine z_1 ?_|refine z_2 ?_|refine s_o ?_|refine z_3 ?_|refine z_4 ?_|refine z_5 ?_|refine z_6 ?_|refine z_7 ?_|refine z_8 ?_|refine z_9 ?_|refine z_a ?_|refine z_b ?_|refine z_d ?_|refine z_e ?_|refine z_f ?_|refine z_g ?_|refine z_h ?_|refine z_i ?_|refine z_j ?_|refine s_a ?_|refine s_s ?_|refine s_n ?_|refine s_i ?_|refine s_f ?_|refine s_b ?_|refine s_d ?_|refine s_l1 ?_|refine s_l2 ?_|refine s_l3 ?_|refine s_l4 ?_|refine s_l5 ?_|refine s_l6 ?_|refine s_l7 ?_|refine s_l8 ?_|refine s_l9 ?_|refine s_g ?_|refine s_q ?_|refine s_e ?_|refine s_j ?_)
  refine o_makeSlice (l := n) (c := n) rfl rfl rfl rfl (Nat.le_refl _) (by omega) (by omega) ?_
  intro b w1 zs hal hzl hz0
  have hk0 := hal.kp
  have hb0 := hal.blk
  have hbe := hal.b_eq
  have hzb := hal.size
  repeat (first|refine z_1 ?_|refine z_2 ?_|refine s_o ?_|refine z_3 ?_|refine z_4 ?_|refine z_5 ?_|refine z_6 ?_|refine z_7 ?_|refine z_8 ?_|refine z_9 ?_|refine z_a ?_|refine z_b ?_|refine z_d ?_|refine z_e ?_|refine z_f ?_|refine z_g ?_|refine z_h ?_|refine z_i ?_|refine z_j ?_|refine s_a ?_|refine s_s ?_|refine s_n ?_|refine s_i ?_|refine s_f ?_|refine s_b ?_|refine s_d ?_|refine s_l1 ?_|refine s_l2 ?_|refine s_l3 ?_|refine s_l4 ?_|refine s_l5 ?_|refine s_l6 ?_|refine s_l7 ?_|refine s_l8 ?_|refine s_l9 ?_|refine s_g ?_|refine s_q ?_|refine s_e ?_|refine s_j ?_)
  refine W_loop (S := Nat × List Value × List Nat) (fun s => [(0, .slice A n c), (3, .slice (some ⟨b, 0, none⟩) n n), (4, .int .i64 (s.1 : Int))]) (fun s w' => Keep w w' ∧ s.1 ≤ n ∧ Blk w' b 25 s.2.1 ∧ s.2.1.length = n ∧ Rows (slR nodeR) w' (L.take s.1) (s.2.1.take s.1) s.2.2 ∧ Fresh w1.heap.size w' s.2.2) (fun s => n - s.1) (0, zs, []) ⟨rfl, rfl, rfl, trivial⟩ ⟨hk0, Nat.zero_le _, hb0, by simpa using hzl, by simp [Rows], Fresh.nil _ _⟩ ?_
  rintro ⟨k, cs, fi⟩ w2 ⟨hk2, hk, hb2, hlen, hrows, hfr⟩
  dsimp only at hk hlen hrows hb2 hfr ⊢
  have hx2 := hx.keep hk2
  repeat (first|refine z_1 ?_|refine z_2 ?_|refine s_o ?_|refine z_3 ?_|refine z_4 ?_|refine z_5 ?_|refine z_6 ?_|refine z_7 ?_|refine z_8 ?_|refine z_9 ?_|refine z_a ?_|refine z_b ?_|refine z_d ?_|refine z_e ?_|refine z_f ?_|refine z_g ?_|refine z_h ?_|refine z_i ?_|refine z_j ?_|refine s_a ?_|refine s_s ?_|refine s_n ?_|refine s_i ?_|refine s_f ?_|refine s_b ?_|refine s_d ?_|refine s_l1 ?_|refine s_l2 ?_|refine s_l3 ?_|refine s_l4 ?_|refine s_l5 ?_|refine s_l6 ?_|refine s_l7 ?_|refine s_l8 ?_|refine s_l9 ?_|refine s_g ?_|refine s_q ?_|refine s_e ?_|refine s_j ?_)
  refine W_cond rfl (fun hc => ?_) (fun hc => ?_)
  · have hkn : k < n := by simp at hc; omega
    obtain ⟨hA, u, f, hcell, hu, _⟩ := ns_get hx2 (i := (k : Int)) (by omega) (by omega)
    have hle := totNS_each (L := L) (k := k) (by omega)
    repeat (first|refine z_1 ?_|refine z_2 ?_|refine s_o ?_|refine z_3 ?_|refine z_4 ?_|refine z_5 ?_|refine z_6 ?_|refine z_7 ?_|refine z_8 ?_|refine z_9 ?_|refine z_a ?_|refine z_b ?_|refine z_d ?_|refine z_e ?_|refine z_f ?_|refine z_g ?_|refine z_h ?_|refine z_i ?_|refine z_j ?_|refine s_a ?_|refine s_s ?_|refine s_n ?_|refine s_i ?_|refine s_f ?_|refine s_b ?_|refine s_d ?_|refine s_l1 ?_|refine s_l2 ?_|refine s_l3 ?_|refine s_l4 ?_|refine s_l5 ?_|refine s_l6 ?_|refine s_l7 ?_|refine s_l8 ?_|refine s_l9 ?_|refine s_g ?_|refine s_q ?_|refine s_e ?_|refine s_j ?_)
    refine o_call rfl rfl rfl (toNodeS_ok hu (by omega)) ?_
    rintro u3 w3 ⟨hk3, f3, hu3, hf3⟩
    have hz2 := hb2.lt
    have hdf := hrows.dom
    replace hk2 := hk2.keep hk3
    replace hb2 := hb2.keep hk3
    replace hfr := hfr.keep hk3
    replace hrows := hrows.keep hk3
    repeat (first|refine z_1 ?_|refine z_2 ?_|refine s_o ?_|refine z_3 ?_|refine z_4 ?_|refine z_5 ?_|refine z_6 ?_|refine z_7 ?_|refine z_8 ?_|refine z_9 ?_|refine z_a ?_|refine z_b ?_|refine z_d ?_|refine z_e ?_|refine z_f ?_|refine z_g ?_|refine z_h ?_|refine z_i ?_|refine z_j ?_|refine s_a ?_|refine s_s ?_|refine s_n ?_|refine s_i ?_|refine s_f ?_|refine s_b ?_|refine s_d ?_|refine s_l1 ?_|refine s_l2 ?_|refine s_l3 ?_|refine s_l4 ?_|refine s_l5 ?_|refine s_l6 ?_|refine s_l7 ?_|refine s_l8 ?_|refine s_l9 ?_|refine s_g ?_|refine s_q ?_|refine s_e ?_|refine s_j ?_)
    refine o_store1 (b := b) (off := k) rfl rfl (by rw [ea_blk, Nat.zero_add, Nat.mul_one]) rfl hu3.oneCell hb2 (by omega) ?_
    intro w4 hu4
    have hbf3 : b ∉ f3 := fun hm => by have := hf3.ge hm; omega
    have hbfi : b ∉ fi := fun hm => by have := hfr.ge hm; omega
    have hu4' := hu3.upd hu4 hbf3
    repeat (first|refine z_1 ?_|refine z_2 ?_|refine s_o ?_|refine z_3 ?_|refine z_4 ?_|refine z_5 ?_|refine z_6 ?_|refine z_7 ?_|refine z_8 ?_|refine z_9 ?_|refine z_a ?_|refine z_b ?_|refine z_d ?_|refine z_e ?_|refine z_f ?_|refine z_g ?_|refine z_h ?_|refine z_i ?_|refine z_j ?_|refine s_a ?_|refine s_s ?_|refine s_n ?_|refine s_i ?_|refine s_f ?_|refine s_b ?_|refine s_d ?_|refine s_l1 ?_|refine s_l2 ?_|refine s_l3 ?_|refine s_l4 ?_|refine s_l5 ?_|refine s_l6 ?_|refine s_l7 ?_|refine s_l8 ?_|refine s_l9 ?_|refine s_g ?_|refine s_q ?_|refine s_e ?_|refine s_j ?_)
    refine ⟨(k + 1, cs.set k u3, fi ++ f3), ⟨rfl, rfl, rfl, trivial⟩, ⟨hk2.upd hu4 (by omega), by dsimp only; omega, hu4.blk, by simp [hlen], ?_, (hfr.upd hu4).append ((hf3.mono (by have := hk2.size_le; have := hb2.lt; omega)).upd hu4) fun b' h1 h2 => by have := hf3.ge h2; have := hdf b' h1; omega⟩, by dsimp only; omega⟩
    dsimp only
    have e1 : (cs.set k u3).take (k + 1) = cs.take k ++ [u3] := by
      rw [List.take_succ_eq_append_getElem (by rw [List.length_set]; omega), List.getElem_set_self, List.take_set_of_le (Nat.le_refl _)]
    rw [take_gi (show k < L.length by omega)]
    refine e1.symm ▸ ?_
    refine (hrows.same fun b' hb' => hu4.other b' fun e => hbfi (e ▸ hb')).append (Rows.single (R := slR nodeR) ⟨u3, rfl, hu4'⟩)
  · simp at hc
    obtain rfl : k = n := by omega
    repeat (first|refine z_1 ?_|refine z_2 ?_|refine s_o ?_|refine z_3 ?_|refine z_4 ?_|refine z_5 ?_|refine z_6 ?_|refine z_7 ?_|refine z_8 ?_|refine z_9 ?_|refine z_a ?_|refine z_b ?_|refine z_d ?_|refine z_e ?_|refine z_f ?_|refine z_g ?_|refine z_h ?_|refine z_i ?_|refine z_j ?_|refine s_a ?_|refine s_s ?_|refine s_n ?_|refine s_i ?_|refine s_f ?_|refine s_b ?_|refine s_d ?_|refine s_l1 ?_|refine s_l2 ?_|refine s_l3 ?_|refine s_l4 ?_|refine s_l5 ?_|refine s_l6 ?_|refine s_l7 ?_|refine s_l8 ?_|refine s_l9 ?_|refine s_g ?_|refine s_q ?_|refine s_e ?_|refine s_j ?_)
    rw [List.take_of_length_le (show L.length ≤ k by omega)] at hrows
    refine ret1 rfl rfl ⟨hk2, b :: fi, ?_, (Fresh.one hb2 (by omega)).append (hfr.mono (by omega)) fun b' h1 h2 => ?_⟩
    · have := Sl.ofBlk (c := k) hb2 hrows (fun j u hu => by
        rw [List.take_of_length_le (by omega)] at hu; exact hu) (by omega)
      rwa [← hnx] at this
    · have : b' = b := by simpa using h1
      subst this
      have := hfr.ge h2; omega

theorem eqNodeSS_ok {w : World} {v u : Value} {xs ys : List (List Nod)} {fp gp : List Nat} (hx : Sl (slR nodeR) w v xs fp) (hy : Sl (slR nodeR) w u ys gp) :
    Run Try.prog 39 [v, u] w (fun r w' => r = .bool (decide (xs = ys)) ∧ Keep w w') := by
  have hn := hx.le
  obtain ⟨A, n, c, rfl, hnx⟩ := hx.split
  obtain ⟨A2, m, c2, rfl, hmy⟩ := hy.split
  refine Run_intro Try.func39 (by unfold CallOk; kernel_rfl) rfl Try.ntmps39 (Nat.le_of_ble_eq_true rfl) ?_
  simp only [penv, Nat.reduceAdd, Nat.zero_add]
  repeat (first|refine z_1 ?_|refine z_2 ?_|refine s_o ?_|refine z_3 ?_|refine z_4 ?_|refine z_5 ?_|refine z_6 ?_|refine z_7 ?_|refine z_8 ?_|refine z_9 ?_|refine z_a ?_|refine z_b ?_|refine z_d ?_|refine z_e ?_|refine z_f ?_|refine z_g ?_|refine z_h ?_|refine z_i ?_|refine z_j ?_|refine s_a ?_|refine s_s ?_|refine s_n ?_|refine s_i ?_|refine s_f ?_|refine s_b ?_|refine s_d ?_|refine s_l1 ?_|refine s_l2 ?_|refine s_l3 ?_|refine s_l4 ?_|refine s_l5 ?_|refine s_l6 ?_|refine s_l7 ?_|refine s_l8 ?_|refine s_l9 ?_|refine s_g ?_|refine s_q ?_|refine s_e ?_|refine s_j ?_)
  refine W_cond rfl (fun hc => ?_) (fun hc => ?_)
  · repeat (first|refine z_1 ?_|refine z_2 ?_|refine s_o ?_|refine z_3 ?_|refine z_4 ?_|refine z_5 ?_|refine z_6 ?_|refine z_7 ?_|refine z_8 ?_|refine z_9 ?_|refine z_a ?_|refine z_b ?_|refine z_d ?_|refine z_e ?_|refine z_f ?_|refine z_g ?_|refine z_h ?_|refine z_i ?_|refine z_j ?_|refine s_a ?_|refine s_s ?_|refine s_n ?_|refine s_i ?_|refine s_f ?_|refine s_b ?_|refine s_d ?_|refine s_l1 ?_|refine s_l2 ?_|refine s_l3 ?_|refine s_l4 ?_|refine s_l5 ?_|refine s_l6 ?_|refine s_l7 ?_|refine s_l8 ?_|refine s_l9 ?_|refine s_g ?_|refine s_q ?_|refine s_e ?_|refine s_j ?_)
    simp at hc
    refine ret1 rfl rfl ⟨?_, Keep.refl _⟩
    have : xs ≠ ys := fun e => by subst e; omega
    simp [this]
  · simp at hc
    have hnm : n = m := by omega
    subst hnm
    repeat (first|refine z_1 ?_|refine z_2 ?_|refine s_o ?_|refine z_3 ?_|refine z_4 ?_|refine z_5 ?_|refine z_6 ?_|refine z_7 ?_|refine z_8 ?_|refine z_9 ?_|refine z_a ?_|refine z_b ?_|refine z_d ?_|refine z_e ?_|refine z_f ?_|refine z_g ?_|refine z_h ?_|refine z_i ?_|refine z_j ?_|refine s_a ?_|refine s_s ?_|refine s_n ?_|refine s_i ?_|refine s_f ?_|refine s_b ?_|refine s_d ?_|refine s_l1 ?_|refine s_l2 ?_|refine s_l3 ?_|refine s_l4 ?_|refine s_l5 ?_|refine s_l6 ?_|refine s_l7 ?_|refine s_l8 ?_|refine s_l9 ?_|refine s_g ?_|refine s_q ?_|refine s_e ?_|refine s_j ?_)
    refine W_loop (S := Nat) (fun k => [(0, .slice A n c), (1, .slice A2 n c2), (5, .int .i64 (k : Int))]) (fun k w' => Keep w w' ∧ k ≤ n ∧ ∀ i, i < k → gi xs (i : Int) = gi ys (i : Int)) (fun k => n - k) 0 ⟨rfl, rfl, rfl, trivial⟩ ⟨Keep.refl _, Nat.zero_le _, fun i hi => absurd hi (by omega)⟩ ?_
    rintro k w1 ⟨hk1, hk, hall⟩
    replace hx := hx.keep hk1
    replace hy := hy.keep hk1
    repeat (first|refine z_1 ?_|refine z_2 ?_|refine s_o ?_|refine z_3 ?_|refine z_4 ?_|refine z_5 ?_|refine z_6 ?_|refine z_7 ?_|refine z_8 ?_|refine z_9 ?_|refine z_a ?_|refine z_b ?_|refine z_d ?_|refine z_e ?_|refine z_f ?_|refine z_g ?_|refine z_h ?_|refine z_i ?_|refine z_j ?_|refine s_a ?_|refine s_s ?_|refine s_n ?_|refine s_i ?_|refine s_f ?_|refine s_b ?_|refine s_d ?_|refine s_l1 ?_|refine s_l2 ?_|refine s_l3 ?_|refine s_l4 ?_|refine s_l5 ?_|refine s_l6 ?_|refine s_l7 ?_|refine s_l8 ?_|refine s_l9 ?_|refine s_g ?_|refine s_q ?_|refine s_e ?_|refine s_j ?_)
    refine W_cond rfl (fun hc => ?_) (fun hc => ?_)
    · have hkn : k < n := by simp at hc; omega
      obtain ⟨hA, a, f1, hck, ha, _⟩ := ns_get hx (i := (k : Int)) (by omega) (by omega)
      obtain ⟨hA2, b, f2, hck2, hb, _⟩ := ns_get hy (i := (k : Int)) (by omega) (by omega)
      repeat (first|refine z_1 ?_|refine z_2 ?_|refine s_o ?_|refine z_3 ?_|refine z_4 ?_|refine z_5 ?_|refine z_6 ?_|refine z_7 ?_|refine z_8 ?_|refine z_9 ?_|refine z_a ?_|refine z_b ?_|refine z_d ?_|refine z_e ?_|refine z_f ?_|refine z_g ?_|refine z_h ?_|refine z_i ?_|refine z_j ?_|refine s_a ?_|refine s_s ?_|refine s_n ?_|refine s_i ?_|refine s_f ?_|refine s_b ?_|refine s_d ?_|refine s_l1 ?_|refine s_l2 ?_|refine s_l3 ?_|refine s_l4 ?_|refine s_l5 ?_|refine s_l6 ?_|refine s_l7 ?_|refine s_l8 ?_|refine s_l9 ?_|refine s_g ?_|refine s_q ?_|refine s_e ?_|refine s_j ?_)
      refine W_quiet (Keep w1) (by kernel_rfl) (by kernel_rfl) (Keep.drew _) ?_
      repeat (first|refine q_o ?_|refine z_k ?_|refine q_a ?_|refine q_s ?_|refine q_n ?_|refine q_i ?_|refine q_f ?_|refine q_b ?_|refine q_d ?_|refine q_l1 ?_|refine q_l2 ?_|refine q_l3 ?_|refine q_l4 ?_|refine q_l5 ?_|refine q_l6 ?_|refine q_l7 ?_|refine q_l8 ?_|refine q_l9 ?_|refine q_g ?_|refine q_q ?_|refine q_e ?_|refine q_j ?_|refine z_l ?_)
      refine WQ_call rfl rfl rfl (fun w' hw' => (eqNodeS_ok (ha.keep hw') (hb.keep hw')).kk hw') ?_
      repeat (first|refine q_o ?_|refine z_k ?_|refine q_a ?_|refine q_s ?_|refine q_n ?_|refine q_i ?_|refine q_f ?_|refine q_b ?_|refine q_d ?_|refine q_l1 ?_|refine q_l2 ?_|refine q_l3 ?_|refine q_l4 ?_|refine q_l5 ?_|refine q_l6 ?_|refine q_l7 ?_|refine q_l8 ?_|refine q_l9 ?_|refine q_g ?_|refine q_q ?_|refine q_e ?_|refine q_j ?_|refine z_l ?_)
      intro w2 hk2 
      repeat (first|refine z_1 ?_|refine z_2 ?_|refine s_o ?_|refine z_3 ?_|refine z_4 ?_|refine z_5 ?_|refine z_6 ?_|refine z_7 ?_|refine z_8 ?_|refine z_9 ?_|refine z_a ?_|refine z_b ?_|refine z_d ?_|refine z_e ?_|refine z_f ?_|refine z_g ?_|refine z_h ?_|refine z_i ?_|refine z_j ?_|refine s_a ?_|refine s_s ?_|refine s_n ?_|refine s_i ?_|refine s_f ?_|refine s_b ?_|refine s_d ?_|refine s_l1 ?_|refine s_l2 ?_|refine s_l3 ?_|refine s_l4 ?_|refine s_l5 ?_|refine s_l6 ?_|refine s_l7 ?_|refine s_l8 ?_|refine s_l9 ?_|refine s_g ?_|refine s_q ?_|refine s_e ?_|refine s_j ?_)
      refine W_cond rfl (fun hd => ?_) (fun hd => ?_)
      · repeat (first|refine z_1 ?_|refine z_2 ?_|refine s_o ?_|refine z_3 ?_|refine z_4 ?_|refine z_5 ?_|refine z_6 ?_|refine z_7 ?_|refine z_8 ?_|refine z_9 ?_|refine z_a ?_|refine z_b ?_|refine z_d ?_|refine z_e ?_|refine z_f ?_|refine z_g ?_|refine z_h ?_|refine z_i ?_|refine z_j ?_|refine s_a ?_|refine s_s ?_|refine s_n ?_|refine s_i ?_|refine s_f ?_|refine s_b ?_|refine s_d ?_|refine s_l1 ?_|refine s_l2 ?_|refine s_l3 ?_|refine s_l4 ?_|refine s_l5 ?_|refine s_l6 ?_|refine s_l7 ?_|refine s_l8 ?_|refine s_l9 ?_|refine s_g ?_|refine s_q ?_|refine s_e ?_|refine s_j ?_)
        simp at hd
        refine ret1 rfl rfl ⟨?_, hk1.keep hk2⟩
        have : xs ≠ ys := fun e => by subst e; exact hd rfl
        simp [this]
      · simp at hd
        repeat (first|refine z_1 ?_|refine z_2 ?_|refine s_o ?_|refine z_3 ?_|refine z_4 ?_|refine z_5 ?_|refine z_6 ?_|refine z_7 ?_|refine z_8 ?_|refine z_9 ?_|refine z_a ?_|refine z_b ?_|refine z_d ?_|refine z_e ?_|refine z_f ?_|refine z_g ?_|refine z_h ?_|refine z_i ?_|refine z_j ?_|refine s_a ?_|refine s_s ?_|refine s_n ?_|refine s_i ?_|refine s_f ?_|refine s_b ?_|refine s_d ?_|refine s_l1 ?_|refine s_l2 ?_|refine s_l3 ?_|refine s_l4 ?_|refine s_l5 ?_|refine s_l6 ?_|refine s_l7 ?_|refine s_l8 ?_|refine s_l9 ?_|refine s_g ?_|refine s_q ?_|refine s_e ?_|refine s_j ?_)
        exact ⟨k + 1, ⟨rfl, rfl, rfl, trivial⟩, ⟨hk1.keep hk2, by omega, fun i hi => by
          rcases Nat.lt_or_ge i k with h1 | h1
          · exact hall i h1
          · have : i = k := by omega
            subst this; exact hd⟩, by omega⟩
    · simp at hc
      obtain rfl : k = n := by omega
      repeat (first|refine z_1 ?_|refine z_2 ?_|refine s_o ?_|refine z_3 ?_|refine z_4 ?_|refine z_5 ?_|refine z_6 ?_|refine z_7 ?_|refine z_8 ?_|refine z_9 ?_|refine z_a ?_|refine z_b ?_|refine z_d ?_|refine z_e ?_|refine z_f ?_|refine z_g ?_|refine z_h ?_|refine z_i ?_|refine z_j ?_|refine s_a ?_|refine s_s ?_|refine s_n ?_|refine s_i ?_|refine s_f ?_|refine s_b ?_|refine s_d ?_|refine s_l1 ?_|refine s_l2 ?_|refine s_l3 ?_|refine s_l4 ?_|refine s_l5 ?_|refine s_l6 ?_|refine s_l7 ?_|refine s_l8 ?_|refine s_l9 ?_|refine s_g ?_|refine s_q ?_|refine s_e ?_|refine s_j ?_)
      refine ret1 rfl rfl ⟨?_, hk1⟩
      have : xs = ys := gi_ext (by omega) (fun i hi => hall i (by omega))
      simp [this]
end Go.E

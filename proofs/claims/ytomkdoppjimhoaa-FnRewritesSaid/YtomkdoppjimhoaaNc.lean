/-
  Contracts of the laws' helpers on lists of nodes: copies. Conditions: as stated.
-/
import Derived.Test.YtomkdoppjimhoaaNb
set_option linter.unusedVariables false
set_option linter.unusedSimpArgs false
namespace Go.E
open Go Go.RowKit Go.Proofs
attribute [local irreducible] W WL WD WE thenE inE retQ PureOp Keep Cell Cells Blk Sl Rows Own Src Fresh

set_option maxHeartbeats 1000000 in
theorem toNodeS_ok {w : World} {v : Value} {L : List Nod} {fp : List Nat} (hx : Sl nodeR w v L fp) (hn : L.length + totN L ≤ 1048576) :
    Run Try.prog 10 [v] w (fun r w' => Keep w w' ∧ ∃ fp', Sl nodeR w' r L fp' ∧ Fresh w.heap.size w' fp') := by
  obtain ⟨A, n, c, rfl, hnx⟩ := hx.split
  refine Run_intro Try.func10 (by unfold CallOk; kernel_rfl) rfl Try.ntmps10 (Nat.le_of_ble_eq_true rfl) ?_
  simp only [penv, Nat.reduceAdd, Nat.zero_add]
  repeat refine zz ?_
  refine o_makeSlice (l := n) (c := n) rfl rfl rfl rfl (Nat.le_refl _) (by omega) (by omega) ?_
  intro b w1 zs hal hzl hz0
  have hk0 := hal.kp
  have hb0 := hal.blk
  have hbe := hal.b_eq
  have hzb := hal.size
  repeat refine zz ?_
  refine W_loop (S := Nat × List Value × List Nat) (fun s => [(0, .slice A n c), (3, .slice (some ⟨b, 0, none⟩) n n), (4, .int .i64 (s.1 : Int))]) (fun s w' => Keep w w' ∧ s.1 ≤ n ∧ Blk w' b 74 s.2.1 ∧ s.2.1.length = n * 6 ∧ Rows nodeR w' (L.take s.1) (s.2.1.take (s.1 * 6)) s.2.2 ∧ Fresh w1.heap.size w' s.2.2) (fun s => n - s.1) (0, zs, []) ⟨rfl, rfl, rfl, trivial⟩ ⟨hk0, Nat.zero_le _, hb0, hzl, by simp [Rows], Fresh.nil _ _⟩ ?_
  rintro ⟨k, cs, fi⟩ w2 ⟨hk2, hk, hb2, hlen, hrows, hfr⟩
  dsimp only at hk hlen hrows hb2 hfr ⊢
  have hx2 := hx.keep hk2
  repeat refine zz ?_
  refine W_cond rfl (fun hc => ?_) (fun hc => ?_)
  · have hkn : k < n := by simp at hc; omega
    obtain ⟨hA, vl, ul, f1, f2, hcell, hvl, hul, _⟩ := node_get hx2 (i := (k : Int)) (by omega) (by omega)
    have hle := totN_each (L := L) (k := k) (by omega)
    repeat refine zz ?_
    refine o_call rfl rfl rfl (toNode_ok hvl hul (by omega)) ?_
    rintro _ w3 ⟨hk3, v3, u3, g1, g2, rfl, hv3, hu3, hf3⟩
    have hz2 := hb2.lt
    have hdf := hrows.dom
    replace hk2 := hk2.keep hk3
    replace hb2 := hb2.keep hk3
    replace hfr := hfr.keep hk3
    replace hrows := hrows.keep hk3
    have ov := hv3.oneCell
    have ou := hu3.oneCell
    repeat refine zz ?_
    refine o_storeS (b := b) (off := k * 6) rfl rfl (by rw [ea_blk, Nat.zero_add]) rfl (by repeat (first | exact ones_nil | refine ones_cons (by first | rfl | assumption) ?_)) rfl hb2 (by simp only [List.length_cons, List.length_nil]; omega) ?_
    intro w4 hu4
    have hbf3 : b ∉ g1 ++ g2 := fun hm => by have := hf3.ge hm; omega
    have hbfi : b ∉ fi := fun hm => by have := hfr.ge hm; omega
    have hl1 : (cs.take (k * 6)).length = k * 6 := by rw [List.length_take]; omega
    have hv4 := hv3.upd hu4 (fun hm => hbf3 (List.mem_append.2 (.inl hm)))
    have hu4' := hu3.upd hu4 (fun hm => hbf3 (List.mem_append.2 (.inr hm)))
    repeat refine zz ?_
    refine ⟨(k + 1, cs.take (k * 6) ++ [.int .i64 (gi L (k : Int)).op, .int .i64 (gi L (k : Int)).wish.kind, .int .i64 (gi L (k : Int)).wish.field, .int .i64 (gi L (k : Int)).wish.value, v3, u3] ++ cs.drop (k * 6 + 6), fi ++ (g1 ++ g2)), ⟨rfl, rfl, rfl, trivial⟩, ⟨hk2.upd hu4 (by omega), by dsimp only; omega, hu4.blk, ?_, ?_, (hfr.upd hu4).append ((hf3.mono (by have := hk2.size_le; have := hb2.lt; omega)).upd hu4) fun b' h1 h2 => by have := hf3.ge h2; have := hdf b' h1; omega⟩, by dsimp only; omega⟩
    · simp [hl1, hlen]; omega
    · dsimp only
      have e1 : (cs.take (k * 6) ++ [Value.int .i64 (gi L (k : Int)).op, .int .i64 (gi L (k : Int)).wish.kind, .int .i64 (gi L (k : Int)).wish.field, .int .i64 (gi L (k : Int)).wish.value, v3, u3] ++ cs.drop (k * 6 + 6)).take ((k + 1) * 6) = cs.take (k * 6) ++ [Value.int .i64 (gi L (k : Int)).op, .int .i64 (gi L (k : Int)).wish.kind, .int .i64 (gi L (k : Int)).wish.field, .int .i64 (gi L (k : Int)).wish.value, v3, u3] := List.take_left' (by simp [hl1]; omega)
      rw [take_gi (show k < L.length by omega)]
      refine e1.symm ▸ ?_
      refine (hrows.same fun b' hb' => hu4.other b' fun e => hbfi (e ▸ hb')).append (Rows.single (R := nodeR) ⟨_, rfl, v3, u3, g1, g2, rfl, rfl, hv4, hu4'⟩)
  · simp at hc
    obtain rfl : k = n := by omega
    repeat refine zz ?_
    rw [List.take_of_length_le (show L.length ≤ k by omega)] at hrows
    refine ret1 rfl rfl ⟨hk2, b :: fi, ?_, (Fresh.one hb2 (by omega)).append (hfr.mono (by omega)) fun b' h1 h2 => ?_⟩
    · have := Sl.ofBlk (c := k) hb2 hrows (fun j u hu => by
        rw [List.take_of_length_le (by omega)] at hu; exact hu) (by omega)
      rwa [← hnx] at this
    · have : b' = b := by simpa using h1
      subst this
      have := hfr.ge h2; omega

end Go.E

/-
  Contracts of the laws' helpers on slices of numbers. Conditions: as stated.
-/
import Derived.Test.YtomkdoppjimhoaaGk
import Derived.Test.YtomkdoppjimhoaaPure
import Derived.Test.YtomkdoppjimhoaaTys
set_option linter.unusedVariables false
set_option linter.unusedSimpArgs false
namespace Go.E
open Go Go.RowKit Go.Proofs
attribute [local irreducible] W WL WQ WD thenE inE retQ PureOp Keep Cell Cells Blk Sl Rows Own Src

theorem toIntS_ok {w : World} {v : Value} {xs : List Int} {fp : List Nat} (hx : Sl intR w v xs fp) (hn : xs.length ≤ 1048576) :
    Run Try.prog 38 [v] w (fun r w' => Keep w w' ∧ ∃ fp', Sl intR w' r xs fp' ∧ Fresh w.heap.size w' fp') := by
  obtain ⟨A, n, c, rfl, hnx⟩ := hx.split
  refine Run_intro Try.func38 (by unfold CallOk; kernel_rfl) rfl Try.ntmps38 (Nat.le_of_ble_eq_true rfl) ?_
  simp only [penv, Nat.reduceAdd, Nat.zero_add]
  repeat refine zz ?_
  refine o_makeSlice (l := n) (c := n) rfl rfl rfl rfl (Nat.le_refl _) (by omega) (by omega) ?_
  intro b w1 zs hal hzl hz0
  have hk0 := hal.kp
  have hb0 := hal.blk
  repeat refine zz ?_
  refine W_loop (S := Nat × List Value) (fun s => [(0, .slice A n c), (3, .slice (some ⟨b, 0, none⟩) n n), (4, .int .i64 (s.1 : Int))]) (fun s w' => Keep w w' ∧ s.1 ≤ n ∧ Blk w' b 3 s.2 ∧ s.2.length = n ∧ ∀ i, i < s.1 → s.2[i]? = some (.int .i64 (gi xs (i : Int)))) (fun s => n - s.1) (0, zs) ⟨rfl, rfl, rfl, trivial⟩ ⟨hk0, Nat.zero_le _, hb0, by simpa using hzl, fun i hi => absurd hi (by omega)⟩ ?_
  rintro ⟨k, cs⟩ w2 ⟨hk2, hk, hb2, hlen, hall⟩
  dsimp only at hk hlen hall hb2 ⊢
  have hx2 := hx.keep hk2
  repeat refine zz ?_
  refine W_cond rfl (fun hc => ?_) (fun hc => ?_)
  · have hkn : k < n := by simp at hc; omega
    obtain ⟨hA, hck⟩ := hx2.getI (i := (k : Int)) (by omega) (by omega)
    repeat refine zz ?_
    refine o_store1 rfl rfl (by rw [ea_blk, Nat.zero_add, Nat.mul_one]) rfl rfl hb2 (by omega) ?_
    intro w3 hu3
    repeat refine zz ?_
    exact ⟨(k + 1, _), ⟨rfl, rfl, rfl, trivial⟩, ⟨hk2.upd hu3 (by have := hal.b_eq; omega), by dsimp only; omega, hu3.blk, by simp [hlen], set_at (by omega) hall rfl⟩, by dsimp only; omega⟩
  · simp at hc
    obtain rfl : k = n := by omega
    repeat refine zz ?_
    refine ret1 rfl rfl ⟨hk2, [b], Sl.ofInts hb2 (by rwa [← hnx]) hnx (Nat.le_refl _), Fresh.one hb2 (by have := hal.b_eq; omega)⟩

theorem eqIntS_ok {w : World} {v u : Value} {xs ys : List Int} {fp gp : List Nat} (hx : Sl intR w v xs fp) (hy : Sl intR w u ys gp) :
    Run Try.prog 40 [v, u] w (fun r w' => r = .bool (decide (xs = ys)) ∧ Keep w w') := by
  have hn := hx.le
  obtain ⟨A, n, c, rfl, hnx⟩ := hx.split
  obtain ⟨A2, m, c2, rfl, hmy⟩ := hy.split
  refine Run_intro Try.func40 (by unfold CallOk; kernel_rfl) rfl Try.ntmps40 (Nat.le_of_ble_eq_true rfl) ?_
  simp only [penv, Nat.reduceAdd, Nat.zero_add]
  repeat refine zz ?_
  refine W_cond rfl (fun hc => ?_) (fun hc => ?_)
  · repeat refine zz ?_
    simp at hc
    refine ret1 rfl rfl ⟨?_, Keep.refl _⟩
    have : xs ≠ ys := fun e => by subst e; omega
    simp [this]
  · simp at hc
    have hnm : n = m := by omega
    subst hnm
    repeat refine zz ?_
    refine W_loop (S := Nat) (fun k => [(0, .slice A n c), (1, .slice A2 n c2), (5, .int .i64 (k : Int))]) (fun k w' => Keep w w' ∧ k ≤ n ∧ ∀ i, i < k → gi xs (i : Int) = gi ys (i : Int)) (fun k => n - k) 0 ⟨rfl, rfl, rfl, trivial⟩ ⟨Keep.refl _, Nat.zero_le _, fun i hi => absurd hi (by omega)⟩ ?_
    rintro k w1 ⟨hk1, hk, hall⟩
    replace hx := hx.keep hk1
    replace hy := hy.keep hk1
    repeat refine zz ?_
    refine W_cond rfl (fun hc => ?_) (fun hc => ?_)
    · have hkn : k < n := by simp at hc; omega
      obtain ⟨hA, hck⟩ := hx.getI (i := (k : Int)) (by omega) (by omega)
      obtain ⟨hA2, hck2⟩ := hy.getI (i := (k : Int)) (by omega) (by omega)
      repeat refine zz ?_
      refine W_quiet (Keep w1) (by kernel_rfl) (by kernel_rfl) (Keep.drew _) ?_
      repeat refine qq ?_
      intro w2 hk2 
      repeat refine zz ?_
      refine W_cond rfl (fun hd => ?_) (fun hd => ?_)
      · repeat refine zz ?_
        simp at hd
        refine ret1 rfl rfl ⟨?_, hk1.keep hk2⟩
        have : xs ≠ ys := fun e => by subst e; exact hd rfl
        simp [this]
      · simp at hd
        repeat refine zz ?_
        exact ⟨k + 1, ⟨rfl, rfl, rfl, trivial⟩, ⟨hk1.keep hk2, by omega, fun i hi => by
          rcases Nat.lt_or_ge i k with h1 | h1
          · exact hall i h1
          · have : i = k := by omega
            subst this; exact hd⟩, by omega⟩
    · simp at hc
      obtain rfl : k = n := by omega
      repeat refine zz ?_
      refine ret1 rfl rfl ⟨?_, hk1⟩
      have : xs = ys := gi_ext (by omega) (fun i hi => hall i (by omega))
      simp [this]
end Go.E

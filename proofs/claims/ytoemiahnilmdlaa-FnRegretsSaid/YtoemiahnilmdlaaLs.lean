/-
  Contract: one list of numbers within another. Conditions: as stated.
-/
import Derived.Test.YtoemiahnilmdlaaLw
set_option linter.unusedVariables false
set_option linter.unusedSimpArgs false
namespace Go.E
open Go Go.RowKit Go.Proofs
attribute [local irreducible] W WL WD WE thenE inE retQ PureOp Keep Cell Cells Blk Sl Rows Own Src Fresh
def subB (xs ys : List Int) : Bool := allB xs.length fun i => hasI ys (gi xs (i : Int))
theorem subset_ok {w : World} {v u : Value} {xs ys : List Int} {fp gp : List Nat} (hx : Sl intR w v xs fp) (hy : Sl intR w u ys gp) : Run Try.prog 30 [v, u] w (fun r w' => r = .bool (subB xs ys) ∧ w = w') := by
  have hn := hx.le
  obtain ⟨A, n, c, rfl, hnx⟩ := hx.split
  refine Run_intro Try.func30 (by unfold CallOk; kernel_rfl) rfl Try.ntmps30 (Nat.le_of_ble_eq_true rfl) ?_
  simp only [penv, Nat.reduceAdd, Nat.zero_add]
  repeat refine zz ?_
  refine W_loop (S := Nat) (fun k => [(0, .slice A n c), (1, u), (5, .int .i64 (k : Int))]) (fun k w' => w = w' ∧ k ≤ n ∧ ∀ i, i < k → (fun i : Nat => hasI ys (gi xs (i : Int))) i = true) (fun k => n - k) 0 ⟨rfl, rfl, rfl, trivial⟩ ⟨rfl, Nat.zero_le _, fun i hi => absurd hi (by omega)⟩ ?_
  rintro k _ ⟨rfl, hk, hall⟩
  repeat refine zz ?_
  refine W_cond rfl (fun hc => ?_) (fun hc => ?_)
  · have hkn : k < n := by simp at hc; omega
    obtain ⟨hA, hcell⟩ := hx.getI (i := (k : Int)) (by omega) (by omega)
    repeat refine zz ?_
    refine o_call rfl rfl rfl (has_ok hy) ?_
    rintro _ _ ⟨rfl, rfl⟩
    repeat refine zz ?_
    refine W_cond rfl (fun hd => ?_) (fun hd => ?_)
    · repeat refine zz ?_
      exact ret1 rfl rfl ⟨by rw [subB, allB_false (k := k) (by omega) (by simpa using hd)], rfl⟩
    · repeat refine zz ?_
      exact ⟨k + 1, ⟨rfl, rfl, rfl, trivial⟩, ⟨rfl, by omega, all_step hall (by simpa using hd)⟩, by omega⟩
  · simp at hc
    obtain rfl : k = n := by omega
    repeat refine zz ?_
    exact ret1 rfl rfl ⟨by rw [subB, allB_true (by rwa [← hnx])], rfl⟩

end Go.E

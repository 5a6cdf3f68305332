/-
  Contract: slices.Sort on a slice of numbers that is the call's own. Conditions: as stated.
-/
import Derived.Test.YtnlleecmnjnphaaGreatLy
import Derived.Test.YtnlleecmnjnphaaGreatSo
import Derived.Test.YtnlleecmnjnphaaGreatL9
set_option linter.unusedVariables false
set_option linter.unusedSimpArgs false
namespace Go.E
open Go Go.RowKit Go.Proofs
theorem sort_eq (xs : List Int) : (xs.mergeSort fun x y => decide (x ≤ y)) = sortP id xs := by
  refine sorted_one ?_ (sortP_sorted xs) ((List.mergeSort_perm xs _).trans (sortP_perm id xs).symm)
  have := List.pairwise_mergeSort (le := fun x y : Int => decide (x ≤ y)) (by intro a b c h1 h2; simp at *; omega) (by intro a b; simp; omega) xs
  exact this.imp fun h => by simpa using h
theorem slices_Sort_ok {w : World} {base b : Nat} {v : Value} {xs : List Int} (ho : OwnF intR w base 3 v xs []) (hb : v.ownBlock = some b) (hn : xs.length ≤ 4194304) :
    Run Tryz.prog 38 [v] w (fun r w' => r = .tuple #[] ∧ w.grownBy w' (some b) ∧ OwnF intR w' base 3 v (sortP id xs) []) := by
  obtain ⟨⟨cells, ⟨hl, h1⟩, h2⟩, hf, hout⟩ := ho
  obtain ⟨_, rfl⟩ := h2.noI
  rcases h1 with ⟨rfl, _⟩ | ⟨g, cap, cur, rfl, hbase, hg, hle, hm, hcs, htk⟩
  · cases hb
  simp only [Value.ownBlock, Option.some.injEq] at hb
  subst hb
  have htk' : cur.toList.take xs.length = xs.map (Value.int .i64) := by rw [← htk]; exact congrArg (fun k => cur.toList.take k) (Nat.mul_one _).symm
  have hH := holds_of_blockI hg htk'
  have hlt : g < w.heap.size := (Array.getElem?_eq_some_iff.1 hg).1
  refine ⟨by unfold CallOk; kernel_rfl, ?_⟩
  refine (calls_of_every_depth fun D => AnyS.slices_Sort_int_in ly189 D g 0 cap xs w hH hlt (by omega)).mono ?_
  rintro e w' ⟨rfl, n, os, rfl⟩
  rw [sort_eq]
  refine ⟨_, rfl, rfl, grownBy_sortedI _, ⟨⟨_, ?_, Rows.ints _ _⟩, Fresh.nil _ _, fun b hb => by simp⟩⟩
  have := ownsRow_sortedI (w := w) (n := n) (os := os) (ss := xs) (ts := sortP id xs) (sortP_len id xs) hbase hg hle hm hcs
  rw [sortP_len]; exact this
end Go.E

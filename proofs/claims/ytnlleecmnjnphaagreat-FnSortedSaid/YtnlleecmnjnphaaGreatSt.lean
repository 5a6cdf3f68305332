/-
  One's own row of numbers, an element of which is written, or that is cut. Conditions: as stated.
-/
import Derived.Test.YtnlleecmnjnphaaGreatL9
set_option linter.unusedVariables false
set_option linter.unusedSimpArgs false
namespace Go.E
open Go Go.RowKit Go.Proofs
section stack
variable {w : World} {base : Nat} {el : TypeId} {v : Value} {xs : List Int}
/-- a slice of one's own, an element of which is written -/
theorem OwnF.stI (h : OwnF intR w base el v xs []) (hx : xs ≠ []) : ∃ b cap cs, v = .slice (some ⟨b, 0, none⟩) xs.length cap ∧ base ≤ b ∧ Blk w b el cs ∧ xs.length ≤ cs.length ∧ xs.length ≤ cap ∧
    (∀ i : Nat, i < xs.length → cs[i]? = some (.int .i64 (gi xs (i : Int)))) ∧
    ∀ (w' : World) (i : Nat) (u : Int), i < xs.length → Upd w w' b el (cs.set i (.int .i64 u)) → OwnF intR w' base el v (xs.set i u) [] := by
  obtain ⟨⟨cells, ⟨hl, h1⟩, h2⟩, h3, h4⟩ := h
  obtain ⟨_, rfl⟩ := h2.noI
  rcases h1 with ⟨rfl, h0⟩ | ⟨b, cap, cur, rfl, hbb, hg, hle, hm, hcs, htk⟩
  · exact absurd (List.eq_nil_of_length_eq_zero h0) hx
  · have hsz : intR.sz = 1 := rfl
    simp only [hsz, Nat.mul_one] at hcs htk hl
    have hlen : xs.length ≤ cur.toList.length := by simp [hcs]; exact hle
    refine ⟨b, cap, cur.toList, rfl, hbb, by simpa [Blk] using hg, hlen, hle, fun i hi => ?_, fun w' i u hi hu => ⟨⟨(xs.set i u).map (Value.int .i64), ⟨by simp [hsz], .inr ⟨b, cap, (cur.toList.set i (.int .i64 u)).toArray, by simp, hbb, hu.blk, by simpa using hle, hm, by simp [hcs, hsz], ?_⟩⟩, Rows.ints _ _⟩, Fresh.nil _ _, fun b hb => by simp⟩⟩
    · have : (cur.toList.take xs.length)[i]? = (xs.map (Value.int .i64))[i]? := by rw [htk]
      rw [List.getElem?_take, if_pos hi, List.getElem?_map, List.getElem?_eq_getElem hi] at this
      rw [this, gi_lt hi]; rfl
    · simp only [hsz, Nat.mul_one, List.length_set, List.toList_toArray]
      rw [List.take_set, htk, List.map_set]
/-- .. and is cut -/
theorem OwnF.cutI {A : Option Addr} {n c : Nat} (h : OwnF intR w base el (.slice A n c) xs []) {k : Nat} (hk : k ≤ n) : OwnF intR w base el (.slice A k c) (xs.take k) [] := by
  obtain ⟨⟨cells, ⟨hl, h1⟩, h2⟩, h3, h4⟩ := h
  obtain ⟨_, rfl⟩ := h2.noI
  have hsz : intR.sz = 1 := rfl
  rcases h1 with ⟨he, h0⟩ | ⟨b, cap, cur, he, hbb, hg, hle, hm, hcs, htk⟩
  · simp only [Value.slice.injEq] at he
    obtain ⟨rfl, rfl, rfl⟩ := he
    obtain rfl : k = 0 := by omega
    rw [List.take_zero]; exact OwnF.none_ w base el
  · simp only [Value.slice.injEq] at he
    obtain ⟨rfl, rfl, rfl⟩ := he
    have hkl : (xs.take k).length = k := by rw [List.length_take]; omega
    refine ⟨⟨(xs.take k).map (Value.int .i64), ⟨by rw [List.length_map, hsz, Nat.mul_one], .inr ⟨b, c, cur, by rw [hkl], hbb, hg, by omega, hm, hcs, ?_⟩⟩, Rows.ints _ _⟩, h3, fun b hb => by simp⟩
    rw [hkl, List.map_take, ← htk, hsz, Nat.mul_one, Nat.mul_one, List.take_take]
    congr 1
    omega
end stack
end Go.E

/-
  The engine: parts of slices. Conditions: none; every lemma is over any program.
-/
import Derived.Test.YtnlleecmnjnphaaGreatGk
set_option linter.unusedVariables false
set_option linter.unusedSimpArgs false
namespace Go.E
open Go Go.RowKit
section
variable {α : Type} {R : Rp α} {w : World} {xs : List α} {fp : List Nat} {A : Option Addr} {n c : Nat}
theorem Sl.hi (h : Sl R w (.slice A n c) xs fp) {k : Nat} (hk : k ≤ n) : ∃ f, Sl R w (.slice A k c) (xs.take k) f ∧ ∀ b, b ∈ f → b ∈ fp := by
  obtain ⟨A', c', cells, fi, he, hlc, hr, h⟩ := h
  simp only [Value.slice.injEq] at he
  obtain ⟨rfl, rfl, rfl⟩ := he
  have hl : (xs.take k).length = k := by rw [List.length_take]; omega
  obtain ⟨f, hf, f2, rfl, _⟩ := hr.take k
  rcases h with ⟨rfl, rfl, rfl⟩ | ⟨ad, rfl, hlt, hc, rfl⟩
  · have : k = 0 := by simpa using hk
    subst this
    simp at hf
    refine ⟨[], ⟨A, c, [], [], by simp, by simpa using hlc.2, ⟨rfl, rfl⟩, .inl ⟨rfl, by simp, rfl⟩⟩, by simp⟩
  · refine ⟨ad.block :: f, ⟨some ad, c, cells.take (k * R.sz), f, by rw [hl], ⟨by omega, hlc.2⟩, hf, .inr ⟨ad, rfl, hlt, fun j u hu => hc j u ?_, rfl⟩⟩, ?_⟩
    · rw [List.getElem?_take] at hu
      split at hu
      · exact hu
      · cases hu
    · intro b hb
      rcases List.mem_cons.1 hb with rfl | hb
      · simp
      · simp [hb]
theorem Sl.lo (h : Sl R w (.slice A n c) xs fp) {k : Nat} (hk : k ≤ n) : ∃ f, Sl R w (.slice (if c = k then A else A.map (·.add (k * R.sz))) (n - k) (c - k)) (xs.drop k) f ∧ ∀ b, b ∈ f → b ∈ fp := by
  obtain ⟨A', c', cells, fi, he, hlc, hr, h⟩ := h
  simp only [Value.slice.injEq] at he
  obtain ⟨rfl, rfl, rfl⟩ := he
  have hl : (xs.drop k).length = xs.length - k := by simp
  by_cases hd : k = xs.length
  · subst hd
    refine ⟨[], ⟨if c = xs.length then A else A.map (·.add (xs.length * R.sz)), c - xs.length, [], [], by simp, ⟨by simp, by omega⟩, ?_, .inl ⟨rfl, by simp, rfl⟩⟩, by simp⟩
    rw [List.drop_length]; exact ⟨rfl, rfl⟩
  · rw [if_neg (by omega)]
    obtain ⟨f, _, f2, rfl, hf⟩ := hr.take k
    rcases h with ⟨rfl, rfl, rfl⟩ | ⟨ad, rfl, hlt, hc, rfl⟩
    · simp at hk; simp at hd; omega
    · refine ⟨ad.block :: f2, ⟨some (ad.add (k * R.sz)), c - k, cells.drop (k * R.sz), f2, by rw [hl]; rfl, ⟨by omega, by omega⟩, hf, .inr ⟨ad.add (k * R.sz), rfl, by rw [block_add]; exact hlt, fun j u hu => ?_, by rw [block_add]⟩⟩, ?_⟩
      · rw [add_add]
        refine hc _ u ?_
        rwa [List.getElem?_drop] at hu
      · intro b hb
        rcases List.mem_cons.1 hb with rfl | hb
        · simp
        · simp [hb]
theorem Sl.seg (h : Sl R w (.slice A n c) xs fp) {l k : Nat} (hl : l ≤ k) (hk : k ≤ n) : ∃ f, Sl R w (.slice (if c = l then A else A.map (·.add (l * R.sz))) (k - l) (c - l)) ((xs.take k).drop l) f ∧ ∀ b, b ∈ f → b ∈ fp := by
  obtain ⟨f, h1, h2⟩ := h.hi hk
  obtain ⟨g, h3, h4⟩ := h1.lo hl
  exact ⟨g, h3, fun b hb => h2 b (h4 b hb)⟩
end
end Go.E

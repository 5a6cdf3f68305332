/-
  Contracts: the places of items in the order of a field, by the reference. Conditions: as stated.
-/
import Derived.Test.YtpdhdnmcafjadaaSo
set_option linter.unusedVariables false
set_option linter.unusedSimpArgs false
namespace Go.E
open Go Go.RowKit Go.Proofs
theorem OwnF.below {α : Type} {R : Rp α} {w : World} {base base' : Nat} {el : TypeId} {v : Value} {xs : List α} {fi : List Nat} (h : OwnF R w base el v xs fi) (hb : base' ≤ base) : OwnF R w base' el v xs fi := by
  obtain ⟨⟨cells, ⟨hl, h1⟩, h2⟩, h3, h4⟩ := h
  refine ⟨⟨cells, ⟨hl, ?_⟩, h2⟩, h3.mono hb, h4⟩
  rcases h1 with h1 | ⟨b, cap, cur, e, hbb, hr⟩
  · exact .inl h1
  · exact .inr ⟨b, cap, cur, e, Nat.le_trans hb hbb, hr⟩
theorem Rows.noI {w : World} : ∀ {xs : List Int} {cs : List Value} {fp : List Nat}, Rows intR w xs cs fp → fp = [] ∧ cs = xs.map (Value.int .i64)
  | [], _, _, h => ⟨h.2, h.1⟩
  | x :: xs, _, _, h => by
    obtain ⟨c1, c2, f1, f2, rfl, rfl, h1, h2⟩ := h
    obtain ⟨rfl, rfl⟩ := h1
    obtain ⟨h3, h4⟩ := Rows.noI h2
    exact ⟨by rw [h3]; rfl, by rw [h4]; rfl⟩
theorem Sl.srcI {w : World} {A : Option Addr} {n c : Nat} {xs : List Int} {fp : List Nat} (h : Sl intR w (.slice A n c) xs fp) : Src intR w A xs [] := by
  obtain ⟨g, ⟨nw, hr, hc⟩, _⟩ := h.src
  obtain ⟨rfl, _⟩ := hr.noI
  exact ⟨nw, hr, hc⟩
theorem Src.takeI {w : World} {A : Option Addr} {xs : List Int} (h : Src intR w A xs []) (k : Nat) : Src intR w A (xs.take k) [] := by
  obtain ⟨nw, hr, hc⟩ := h
  obtain ⟨_, rfl⟩ := hr.noI
  refine ⟨(xs.take k).map (Value.int .i64), Rows.ints w _, ?_⟩
  rcases hc with ⟨h1, h2⟩ | ⟨ad, rfl, hc⟩
  · left; subst h2; simp
  · right
    refine ⟨ad, rfl, fun j u hu => hc j u ?_⟩
    rw [List.map_take, List.getElem?_take] at hu
    split at hu
    · exact hu
    · cases hu
theorem Src.dropI {w : World} {A : Option Addr} {xs : List Int} (h : Src intR w A xs []) {k c : Nat} (hk : k ≤ xs.length) (hc : xs.length ≤ c) : Src intR w (if c = k then A else A.map (·.add (k * 1))) (xs.drop k) [] := by
  obtain ⟨nw, hr, hs⟩ := h
  obtain ⟨_, rfl⟩ := hr.noI
  refine ⟨(xs.drop k).map (Value.int .i64), Rows.ints w _, ?_⟩
  by_cases hd : xs.drop k = []
  · left; rw [hd]; exact ⟨rfl, rfl⟩
  · have hne : c ≠ k := fun e => hd (List.drop_of_length_le (by omega))
    rcases hs with ⟨h1, h2⟩ | ⟨ad, rfl, hs⟩
    · left; subst h2; simp
    · right
      rw [if_neg hne]
      refine ⟨_, rfl, fun j u hu => ?_⟩
      rw [add_add]
      refine hs _ u ?_
      rw [List.map_drop, List.getElem?_drop] at hu
      rwa [Nat.mul_one]
attribute [local irreducible] W WL WD WE thenE inE retQ PureOp Keep Cell Cells Blk Sl Rows Own Src Fresh

def fval (k : Int) (x : Itm) : Int := gi x.vals k
theorem sortN_rng {f : Int → Int} {n i : Nat} (hi : i ≤ n) : ∀ y, y ∈ sortN f (iota 0 n) i → 0 ≤ y ∧ y < n := by
  intro y hy
  have h1 := (sortN_perm f (iota 0 n) i (by rw [iota_len]; exact hi)).mem_iff.1 hy
  have h2 := List.mem_of_mem_take h1
  simp [iota] at h2
  obtain ⟨a, ha, rfl⟩ := h2
  omega

end Go.E

/-
  Slices of one's own: as what an append copies; a whole block; a wish with lists of one's own. Conditions: as stated.
-/
import Derived.Test.YtnlleecmnjnphaaGreatGk
import Derived.Test.YtnlleecmnjnphaaGreatBs
set_option linter.unusedVariables false
set_option linter.unusedSimpArgs false
namespace Go.E
open Go Go.RowKit Go.Proofs
theorem Own.srcF {α : Type} {R : Rp α} {w : World} {base : Nat} {el : TypeId} {A : Option Addr} {n c : Nat} {xs : List α} {fi : List Nat} (h : Own R w base el (.slice A n c) xs fi) : Src R w A xs fi := by
  obtain ⟨cells, ⟨hl, h1⟩, h2⟩ := h
  refine ⟨cells, h2, ?_⟩
  rcases h1 with ⟨he, h0⟩ | ⟨b, cap, cur, he, hb, hg, hle, hm, hcs, htk⟩
  · refine .inl ⟨List.eq_nil_of_length_eq_zero (by rw [hl, h0]; simp), List.eq_nil_of_length_eq_zero h0⟩
  · simp only [Value.slice.injEq] at he
    obtain ⟨rfl, rfl, rfl⟩ := he
    refine .inr ⟨_, rfl, fun j u hu => ?_⟩
    rw [add_mk, Nat.zero_add]
    rw [← htk, List.getElem?_take] at hu
    split at hu
    · simp [World.cell?, hg]; simpa using hu
    · cases hu
theorem OwnF.full {α : Type} {R : Rp α} {w : World} {base b : Nat} {el : TypeId} {cs : List Value} {xs : List α} {fi : List Nat} (h : Blk w b el cs) (hr : Rows R w xs cs fi) (hm : xs.length ≤ maxLen) (hb : base ≤ b) (hf : Fresh base w fi) (ho : b ∉ fi) :
    OwnF R w base el (.slice (some ⟨b, 0, none⟩) xs.length xs.length) xs fi :=
  ⟨Own.full h hr hm hb, hf, fun c hc => by simp only [Value.ownBlock, Option.some.injEq] at hc; exact hc ▸ ho⟩
/-- a wish whose lists are the call's own -/
theorem wish_own {w : World} {base : Nat} {tl tp : TypeId} {u v : Value} {x : Wsh} (hL : OwnF intR w base tl u x.list []) (hP : OwnF pairR w base tp v x.pairs []) (hdj : ∀ c, u.ownBlock = some c → v.ownBlock ≠ some c) :
    ∃ f, wishR.rep w x [.int .i64 x.kind, .int .i64 x.field, .int .i64 x.value, u, v] f ∧ Fresh base w f := by
  obtain ⟨f1, s1, _, e1⟩ := hL.own.sl (by decide)
  obtain ⟨f2, s2, _, e2⟩ := hP.own.sl (by decide)
  obtain ⟨g1, t1, r1⟩ := hL.sl (by decide)
  have fr1 : Fresh base w f1 := by
    subst e1
    cases hu : u.ownBlock with
    | none => exact Fresh.nil _ _
    | some c =>
      obtain ⟨cells, ⟨hl, h1⟩, h2⟩ := hL.own
      rcases h1 with ⟨rfl, _⟩ | ⟨b, cap, cur, rfl, hb, hg, _⟩
      · simp [Value.ownBlock] at hu
      · simp only [Value.ownBlock, Option.some.injEq] at hu
        subst hu
        exact Fresh.one (cs := cur.toList) (by simpa [Blk] using hg) hb
  have fr2 : Fresh base w f2 := by
    subst e2
    cases hu : v.ownBlock with
    | none => exact Fresh.nil _ _
    | some c =>
      obtain ⟨cells, ⟨hl, h1⟩, h2⟩ := hP.own
      rcases h1 with ⟨rfl, _⟩ | ⟨b, cap, cur, rfl, hb, hg, _⟩
      · simp [Value.ownBlock] at hu
      · simp only [Value.ownBlock, Option.some.injEq] at hu
        subst hu
        exact Fresh.one (cs := cur.toList) (by simpa [Blk] using hg) hb
  refine ⟨f1 ++ f2, ⟨u, v, f1, f2, rfl, rfl, s1, s2⟩, fr1.append fr2 fun b h1 h2 => ?_⟩
  subst e1; subst e2
  simp at h1 h2
  exact hdj b h1 h2
theorem OwnF.low {α : Type} {R : Rp α} {w : World} {base base' : Nat} {el : TypeId} {v : Value} {xs : List α} {fi : List Nat} (h : OwnF R w base el v xs fi) (hb : base' ≤ base) : OwnF R w base' el v xs fi := by
  obtain ⟨⟨cells, ⟨hl, h1⟩, h2⟩, h3, h4⟩ := h
  refine ⟨⟨cells, ⟨hl, ?_⟩, h2⟩, h3.mono hb, h4⟩
  rcases h1 with h1 | ⟨b, cap, cur, e, hbb, hr⟩
  · exact .inl h1
  · exact .inr ⟨b, cap, cur, e, Nat.le_trans hb hbb, hr⟩
end Go.E

/-
  Items with the values that lie behind them, as rows written out in cells. Conditions: as stated.
-/
import Derived.Test.YtnlleecmnjnphaaGreatFl
import Derived.Test.YtnlleecmnjnphaaGreatBs
set_option linter.unusedVariables false
set_option linter.unusedSimpArgs false
namespace Go.E
open Go Go.RowKit Go.Proofs
instance : Inhabited (Itm × Value) := ⟨(default, .bool false)⟩
def ivF : Flat (Itm × Value) where
  sz := 2
  cf p := [.int .i64 p.1.id, p.2]
  ok p := p.2.oneCell' = true
  len _ := rfl
  one x h v hv := by
    simp only [List.mem_cons, List.not_mem_nil, or_false] at hv
    rcases hv with rfl | rfl
    · rfl
    · exact h
/-- the values of each item lie behind, in the blocks of g -/
def BehV (zs : List (Itm × Value)) (g : List Nat) (w : World) : Prop := ∀ p, p ∈ zs → ∃ f, Sl intR w p.2 p.1.vals f ∧ ∀ b, b ∈ f → b ∈ g
theorem BehV.keep {zs : List (Itm × Value)} {g : List Nat} {w w' : World} (h : BehV zs g w) (k : Keep w w') : BehV zs g w' := fun p hp => by
  obtain ⟨f, h1, h2⟩ := h p hp; exact ⟨f, h1.keep k, h2⟩
theorem BehV.same {zs : List (Itm × Value)} {g : List Nat} {w w' : World} (h : BehV zs g w) (k : ∀ b, b ∈ g → w'.heap[b]? = w.heap[b]?) : BehV zs g w' := fun p hp => by
  obtain ⟨f, h1, h2⟩ := h p hp; exact ⟨f, h1.same fun b hb => k b (h2 b hb), h2⟩
theorem BehV.upd {zs : List (Itm × Value)} {g : List Nat} {w w' : World} (h : BehV zs g w) {b : Nat} {t : TypeId} {cs : List Value} (k : Upd w w' b t cs) (hb : b ∉ g) : BehV zs g w' := h.same fun c hc => k.other c fun e => hb (e ▸ hc)
theorem BehV.sub {zs ys : List (Itm × Value)} {g : List Nat} {w : World} (h : BehV zs g w) (hs : ∀ p, p ∈ ys → p ∈ zs) : BehV ys g w := fun p hp => h p (hs p hp)
theorem iv_rows {w : World} {g : List Nat} : ∀ zs : List (Itm × Value), BehV zs g w → ∃ f, Rows itemR w (zs.map Prod.fst) (zs.flatMap ivF.cf) f ∧ ∀ b, b ∈ f → b ∈ g
  | [], _ => ⟨[], ⟨rfl, rfl⟩, fun b hb => by cases hb⟩
  | p :: r, h => by
    obtain ⟨f, h1, h2⟩ := iv_rows r (h.sub fun q hq => List.mem_cons_of_mem _ hq)
    obtain ⟨f0, h3, h4⟩ := h p (by simp)
    exact ⟨f0 ++ f, ⟨_, _, f0, f, rfl, rfl, ⟨_, rfl, h3⟩, h1⟩, fun b hb => (List.mem_append.1 hb).elim (h4 b) (h2 b)⟩
theorem iv_items {w : World} {v : Value} {g fp : List Nat} {zs : List (Itm × Value)} (hB : BehV zs g w) (h : Sl ivF.R w v zs fp) : ∃ f, Sl itemR w v (zs.map Prod.fst) f ∧ ∀ b, b ∈ f → b ∈ fp ∨ b ∈ g := by
  obtain ⟨A, c, cells, fi, rfl, hlc, hr, h⟩ := h
  obtain ⟨_, rfl, rfl⟩ := Flat.rows.1 hr
  obtain ⟨f, h1, h2⟩ := iv_rows zs hB
  rcases h with ⟨h3, h4, rfl⟩ | ⟨ad, rfl, hlt, hc, rfl⟩
  · exact ⟨f, ⟨A, c, _, f, by simp, by simpa using hlc, h1, .inl ⟨h3, by simp [h4], rfl⟩⟩, fun b hb => .inr (h2 b hb)⟩
  · refine ⟨ad.block :: f, ⟨some ad, c, _, f, by simp, by simpa using hlc, h1, .inr ⟨ad, rfl, hlt, hc, rfl⟩⟩, fun b hb => ?_⟩
    rcases List.mem_cons.1 hb with rfl | hb
    · exact .inl (List.mem_cons_self ..)
    · exact .inr (h2 b hb)
end Go.E

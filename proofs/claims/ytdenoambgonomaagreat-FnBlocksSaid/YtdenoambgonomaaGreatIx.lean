/-
  Items of a list by their places: how rows of them are written. Conditions: none.
-/
import Derived.Test.YtdenoambgonomaaGreatFl
import Derived.Test.YtdenoambgonomaaGreatBs
set_option linter.unusedVariables false
set_option linter.unusedSimpArgs false
namespace Go.E
open Go Go.RowKit Go.Proofs
def idF (L : List Itm) (U : Nat → Value) : Flat Nat where
  sz := 2
  cf i := [.int .i64 (gi L (i : Int)).id, U i]
  ok i := i < L.length ∧ (U i).oneCell' = true
  len _ := rfl
  one x h v hv := by
    simp only [List.mem_cons, List.not_mem_nil, or_false] at hv
    rcases hv with rfl | rfl
    · rfl
    · exact h.2
def heF (L : List Itm) (U : Nat → Value) : Flat (Nat × Bool) where
  sz := 3
  cf p := [.int .i64 (gi L (p.1 : Int)).id, U p.1, .bool p.2]
  ok p := p.1 < L.length ∧ (U p.1).oneCell' = true
  len _ := rfl
  one x h v hv := by
    simp only [List.mem_cons, List.not_mem_nil, or_false] at hv
    rcases hv with rfl | rfl | rfl
    · rfl
    · exact h.2
    · rfl
def boF : Flat Bool where
  sz := 1
  cf b := [.bool b]
  ok _ := True
  len _ := rfl
  one x h v hv := by
    simp only [List.mem_cons, List.not_mem_nil, or_false] at hv
    rw [hv]; rfl
/-- the values of each item lie behind -/
def BehN (L : List Itm) (U : Nat → Value) (g : List Nat) (w : World) : Prop := ∀ i : Nat, i < L.length → ∃ f, Sl intR w (U i) (gi L (i : Int)).vals f ∧ ∀ b, b ∈ f → b ∈ g
theorem BehN.keep {L : List Itm} {U : Nat → Value} {g : List Nat} {w w' : World} (h : BehN L U g w) (k : Keep w w') : BehN L U g w' := fun i hi => by
  obtain ⟨f, h1, h2⟩ := h i hi; exact ⟨f, h1.keep k, h2⟩
theorem BehN.same {L : List Itm} {U : Nat → Value} {g : List Nat} {w w' : World} (h : BehN L U g w) (k : ∀ b, b ∈ g → w'.heap[b]? = w.heap[b]?) : BehN L U g w' := fun i hi => by
  obtain ⟨f, h1, h2⟩ := h i hi; exact ⟨f, h1.same fun b hb => k b (h2 b hb), h2⟩
theorem BehN.ok {L : List Itm} {U : Nat → Value} {g : List Nat} {w : World} (h : BehN L U g w) {i : Nat} (hi : i < L.length) : i < L.length ∧ (U i).oneCell' = true := by
  obtain ⟨f, h1, _⟩ := h i hi; exact ⟨hi, h1.oneCell⟩
theorem rows_ix {w : World} : ∀ {xs : List Itm} {cells : List Value} {fi : List Nat}, Rows itemR w xs cells fi →
    cells = (List.range xs.length).flatMap (fun (i : Nat) => [Value.int .i64 (gi xs (i : Int)).id, cells.getD (2 * i + 1) (.bool false)]) ∧ ∀ i : Nat, i < xs.length → ∃ f, Sl intR w (cells.getD (2 * i + 1) (.bool false)) (gi xs (i : Int)).vals f ∧ ∀ b, b ∈ f → b ∈ fi
  | [], cells, fi, h => by obtain ⟨rfl, rfl⟩ := h; exact ⟨rfl, fun i hi => by simp at hi⟩
  | x :: r, cells, fi, h => by
    obtain ⟨c1, c2, f1, f2, rfl, rfl, ⟨u, rfl, hu⟩, h2⟩ := h
    obtain ⟨h3, h4⟩ := rows_ix h2
    have gs : ∀ i : Nat, ([Value.int .i64 x.id, u] ++ c2).getD (2 * (i + 1) + 1) (.bool false) = c2.getD (2 * i + 1) (.bool false) := fun i => by
      rw [show 2 * (i + 1) + 1 = (2 * i + 1) + 1 + 1 by omega]; rfl
    have gt : ∀ i : Nat, gi (x :: r) ((i + 1 : Nat) : Int) = gi r (i : Int) := fun i => by simp [gi]
    have g0 : gi (x :: r) ((0 : Nat) : Int) = x := by simp [gi]
    refine ⟨?_, fun i hi => ?_⟩
    · rw [List.length_cons, List.range_succ_eq_map, List.flatMap_cons, List.flatMap_map]
      have e : (List.range r.length).flatMap (fun (a : Nat) => [Value.int .i64 (gi (x :: r) ((a.succ : Nat) : Int)).id, ([Value.int .i64 x.id, u] ++ c2).getD (2 * a.succ + 1) (.bool false)]) = c2 := by
        conv => rhs; rw [h3]
        refine congrArg (fun k => List.flatMap k (List.range r.length)) (funext fun a => ?_)
        rw [gs a, gt a]
      rw [e, g0]
      try rfl
    · cases i with
      | zero => exact ⟨f1, by rw [g0]; exact hu, fun b hb => List.mem_append.2 (.inl hb)⟩
      | succ i =>
        obtain ⟨f, h5, h6⟩ := h4 i (by simpa using hi)
        exact ⟨f, by rw [gs, gt]; exact h5, fun b hb => List.mem_append.2 (.inr (h6 b hb))⟩
theorem items_ix {w : World} {v : Value} {L : List Itm} {fp : List Nat} (h : Sl itemR w v L fp) : ∃ U f0, Sl (idF L U).R w v (List.range L.length) f0 ∧ (∀ b, b ∈ f0 → b ∈ fp) ∧ BehN L U fp w := by
  obtain ⟨A, c, cells, fi, rfl, hlc, hr, h⟩ := h
  obtain ⟨h1, h2⟩ := rows_ix hr
  have hsub : ∀ b, b ∈ fi → b ∈ fp := by
    rcases h with ⟨_, _, rfl⟩ | ⟨ad, _, _, _, rfl⟩
    · exact fun b hb => hb
    · exact fun b hb => List.mem_cons_of_mem _ hb
  have hbeh : BehN L (fun i => cells.getD (2 * i + 1) (.bool false)) fp w := fun i hi => by
    obtain ⟨f, h3, h4⟩ := h2 i hi; exact ⟨f, h3, fun b hb => hsub b (h4 b hb)⟩
  have hrows : Rows (idF L fun i => cells.getD (2 * i + 1) (.bool false)).R w (List.range L.length) cells [] := Flat.rows.2 ⟨fun x hx => hbeh.ok (List.mem_range.1 hx), h1, rfl⟩
  have hl : (List.range L.length).length = L.length := List.length_range
  rcases h with ⟨h3, h4, rfl⟩ | ⟨ad, rfl, hlt, hc, rfl⟩
  · refine ⟨_, [], ⟨A, c, cells, [], by rw [hl], by rw [hl]; exact hlc, hrows, .inl ⟨h3, by rw [h4]; rfl, rfl⟩⟩, by simp, hbeh⟩
  · refine ⟨_, [ad.block], ⟨some ad, c, cells, [], by rw [hl], by rw [hl]; exact hlc, hrows, .inr ⟨ad, rfl, hlt, hc, rfl⟩⟩, by simp, hbeh⟩
theorem ix_rows {w : World} {L : List Itm} {U : Nat → Value} {g : List Nat} (hB : BehN L U g w) : ∀ ps : List Nat, (∀ i, i ∈ ps → i < L.length) → ∃ f, Rows itemR w (ps.map fun (i : Nat) => gi L (i : Int)) (ps.flatMap (idF L U).cf) f ∧ ∀ b, b ∈ f → b ∈ g := by
  intro ps
  induction ps with
  | nil => intro _; exact ⟨[], ⟨rfl, rfl⟩, by simp⟩
  | cons x r ih =>
    intro h
    obtain ⟨f, h1, h2⟩ := ih fun i hi => h i (List.mem_cons_of_mem _ hi)
    obtain ⟨f0, h3, h4⟩ := hB x (h x (by simp))
    exact ⟨f0 ++ f, ⟨_, _, f0, f, List.flatMap_cons, rfl, ⟨U x, rfl, h3⟩, h1⟩, fun b hb => (List.mem_append.1 hb).elim (h4 b) (h2 b)⟩
theorem ix_items {w : World} {v : Value} {L : List Itm} {U : Nat → Value} {g fp : List Nat} {ps : List Nat} (hB : BehN L U g w) (h : Sl (idF L U).R w v ps fp) : ∃ f, Sl itemR w v (ps.map fun (i : Nat) => gi L (i : Int)) f ∧ ∀ b, b ∈ f → b ∈ fp ∨ b ∈ g := by
  obtain ⟨A, c, cells, fi, rfl, hlc, hr, h⟩ := h
  obtain ⟨hok, rfl, rfl⟩ := Flat.rows.1 hr
  obtain ⟨f, h1, h2⟩ := ix_rows hB ps fun i hi => (hok i hi).1
  have hl : (ps.map fun (i : Nat) => gi L (i : Int)).length = ps.length := List.length_map _
  rcases h with ⟨h3, h4, rfl⟩ | ⟨ad, rfl, hlt, hc, rfl⟩
  · exact ⟨f, ⟨A, c, _, f, by rw [hl], by rw [hl]; exact hlc, h1, .inl ⟨h3, by rw [h4]; rfl, rfl⟩⟩, fun b hb => .inr (h2 b hb)⟩
  · refine ⟨ad.block :: f, ⟨some ad, c, _, f, by rw [hl], by rw [hl]; exact hlc, h1, .inr ⟨ad, rfl, hlt, hc, rfl⟩⟩, fun b hb => ?_⟩
    rcases List.mem_cons.1 hb with rfl | hb
    · exact .inl (by simp)
    · exact .inr (h2 b hb)
end Go.E

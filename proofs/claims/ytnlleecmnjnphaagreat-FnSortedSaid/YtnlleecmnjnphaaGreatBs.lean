/-
  The engine: reading items, pairs, nodes and lists of nodes; how large they are. Conditions: none.
-/
import Derived.Test.YtnlleecmnjnphaaGreatMrk
import Derived.Test.YtnlleecmnjnphaaGreatTys
import Derived.Test.YtnlleecmnjnphaaGreatPure
set_option linter.unusedVariables false
set_option linter.unusedSimpArgs false
namespace Go.E
open Go Go.RowKit Go.Proofs
def totP (l : List (Int × Int)) : Nat := l.length
def totW (w : Wsh) : Nat := w.list.length + w.pairs.length
def totN : List Nod → Nat
  | [] => 0
  | x :: r => totW x.wish + totN r
theorem totN_append (a b : List Nod) : totN (a ++ b) = totN a + totN b := by
  induction a with
  | nil => simp [totN]
  | cons x r ih => simp only [List.cons_append, totN, ih]; omega
theorem totN_take {L : List Nod} {k : Nat} (h : k < L.length) : totN (L.take (k + 1)) = totN (L.take k) + totW (gi L (k : Int)).wish := by
  rw [take_gi h, totN_append]; simp [totN]
theorem totN_take_le (L : List Nod) (k : Nat) : totN (L.take k) ≤ totN L := by
  have := totN_append (L.take k) (L.drop k)
  rw [List.take_append_drop] at this; omega
theorem totN_each {L : List Nod} {k : Nat} (h : k < L.length) : totW (gi L (k : Int)).wish ≤ totN L := by
  have := totN_take h; have := totN_take_le L (k + 1); omega

def totNS : List (List Nod) → Nat
  | [] => 0
  | x :: r => x.length + totN x + totNS r
theorem totNS_append (a b : List (List Nod)) : totNS (a ++ b) = totNS a + totNS b := by
  induction a with
  | nil => simp [totNS]
  | cons x r ih => simp only [List.cons_append, totNS, ih]; omega
theorem totNS_take {L : List (List Nod)} {k : Nat} (h : k < L.length) : totNS (L.take (k + 1)) = totNS (L.take k) + ((gi L (k : Int)).length + totN (gi L (k : Int))) := by
  rw [take_gi h, totNS_append]; simp [totNS]
theorem totNS_take_le (L : List (List Nod)) (k : Nat) : totNS (L.take k) ≤ totNS L := by
  have := totNS_append (L.take k) (L.drop k)
  rw [List.take_append_drop] at this; omega
theorem totNS_each {L : List (List Nod)} {k : Nat} (h : k < L.length) : (gi L (k : Int)).length + totN (gi L (k : Int)) ≤ totNS L := by
  have := totNS_take h; have := totNS_take_le L (k + 1); omega
attribute [local irreducible] W WL WD WE thenE inE retQ PureOp Keep Cell Cells Blk Sl Rows Own Src Fresh

theorem pair_get {w : World} {A : Option Addr} {n c : Nat} {L : List (Int × Int)} {fp : List Nat} (h : Sl pairR w (.slice A n c) L fp) {i : Int} (h0 : 0 ≤ i) (hi : i < n) :
    A.isSome = true ∧ Cells w (ea A 2 i) [.int .i64 (gi L i).1, .int .i64 (gi L i).2] := by
  obtain ⟨hA, cs, f, ⟨rfl, _⟩, hf, hc⟩ := h.get h0 hi
  exact ⟨hA, hc⟩
theorem node_get {w : World} {A : Option Addr} {n c : Nat} {L : List Nod} {fp : List Nat} (h : Sl nodeR w (.slice A n c) L fp) {i : Int} (h0 : 0 ≤ i) (hi : i < n) :
    A.isSome = true ∧ ∃ v u f1 f2, Cells w (ea A 6 i) [.int .i64 (gi L i).op, .int .i64 (gi L i).wish.kind, .int .i64 (gi L i).wish.field, .int .i64 (gi L i).wish.value, v, u] ∧ Sl intR w v (gi L i).wish.list f1 ∧ Sl pairR w u (gi L i).wish.pairs f2 ∧
      (∀ b, b ∈ f1 → b ∈ fp) ∧ (∀ b, b ∈ f2 → b ∈ fp) := by
  obtain ⟨hA, cs, f, ⟨c, rfl, v, u, f1, f2, rfl, rfl, hv, hu⟩, hf, hc⟩ := h.get h0 hi
  exact ⟨hA, v, u, f1, f2, hc, hv, hu, fun b hb => hf b (List.mem_append.2 (.inl hb)), fun b hb => hf b (List.mem_append.2 (.inr hb))⟩

theorem item_get {w : World} {A : Option Addr} {n c : Nat} {L : List Itm} {fp : List Nat} (h : Sl itemR w (.slice A n c) L fp) {i : Int} (h0 : 0 ≤ i) (hi : i < n) :
    A.isSome = true ∧ ∃ u f, Cells w (ea A 2 i) [.int .i64 (gi L i).id, u] ∧ Sl intR w u (gi L i).vals f ∧ (∀ b, b ∈ f → b ∈ fp) := by
  obtain ⟨hA, cs, f, ⟨u, rfl, hu⟩, hf, hc⟩ := h.get h0 hi
  exact ⟨hA, u, f, hc, hu, hf⟩

theorem ns_get {w : World} {A : Option Addr} {n c : Nat} {xss : List (List Nod)} {fp : List Nat} (h : Sl (slR nodeR) w (.slice A n c) xss fp) {i : Int} (h0 : 0 ≤ i) (hi : i < n) :
    A.isSome = true ∧ ∃ u f, Cell w (ea A 1 i) u ∧ Sl nodeR w u (gi xss i) f ∧ (∀ b, b ∈ f → b ∈ fp) := by
  obtain ⟨hA, cs, f, ⟨u, rfl, hu⟩, hf, hc⟩ := h.get h0 hi
  exact ⟨hA, u, f, hc.one, hu, hf⟩

end Go.E

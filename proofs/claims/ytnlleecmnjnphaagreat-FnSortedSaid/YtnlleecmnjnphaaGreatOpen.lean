/-
  From the claim form's reading of an argument to the walks' own words. Conditions: none.
-/
import Derived.Test.YtnlleecmnjnphaaGreatGk
import Derived.Test.YtnlleecmnjnphaaGreatTys
import Derived.ProofKit
import Derived.OpenShut
import Derived.ChangeOld
import Derived.Deep.Slices
set_option linter.unusedVariables false
set_option linter.unusedSimpArgs false
namespace Go.E
open Go Go.RowKit Go.ChangeShapes Go.WideShapes Go.ChangeAt Go.Deep

/-- whatever reads as data of type t lies in memory as R says -/
def Opens (P : Program) (t : TypeId) {α : Type} (R : Rp α) : Prop :=
  ∀ (H : Type) (enc : TypeId × Value → H) (W : World) (base : Nat) (spare : Nat → Bool) (held : Bool) (fuel : Nat) (cs : List Value) (x : DataW H × List MemPlace),
    DataW.trod enc P W base spare held fuel t cs = some x → ∃ y fp, R.rep W y cs fp

section
variable {P : Program} {t e : TypeId}
theorem opens_int (h : IntT P t .i64) : Opens P t intR := by
  intro H enc W base spare held fuel cs x hx
  obtain ⟨n, rfl, _, _⟩ := DataW.trod_int h.u hx
  exact ⟨n, [], rfl, rfl⟩
theorem cellsOf_eq {sz bytes : Nat} {z : List Value} (h : ElemT P t sz bytes z) : P.cellsOf t = sz := by
  obtain ⟨i, v, hi, h1, _⟩ := h.get
  simp [Program.cellsOf, hi, h1]
theorem opens_slice {α : Type} {R : Rp α} {bytes : Nat} {z : List Value} (h : SliceT P t e) (he : ElemT P e R.sz bytes z) (hsz : 0 < R.sz) (ho : Opens P e R) : Opens P t (slR R) := by
  intro H enc W base spare held fuel cs x hx
  rcases open_slice h.u hx with ⟨rfl, _⟩ | ⟨a, len, cap, m, n, D, Pl, rfl, _, hlc, hcm, hm, _, hel⟩
  · exact ⟨[], [], _, rfl, none, 0, [], [], rfl, ⟨Nat.le_refl _, by omega⟩, ⟨rfl, rfl⟩, .inl ⟨rfl, rfl, rfl⟩⟩
  · rw [cellsOf_eq he] at hel
    simp only [maxLen] at hcm
    have hlm : len ≤ m := by rw [hm]; split <;> omega
    have key : ∀ k, k ≤ len → ∃ ys cells fi, ys.length = k ∧ Rows R W ys cells fi ∧ ∀ (j : Nat) (u : Value), cells[j]? = some u → W.cell? (a.add j) = some u := by
      intro k
      induction k with
      | zero => intro _; exact ⟨[], [], [], rfl, ⟨rfl, rfl⟩, fun j u hu => by simp at hu⟩
      | succ k ih =>
        intro hk
        obtain ⟨ys, cells, fi, h1, h2, h3⟩ := ih (by omega)
        obtain ⟨cs', hc, ht⟩ := hel k (by omega)
        obtain ⟨y, fp, hr⟩ := ho H enc W base spare held n cs' _ ht
        obtain ⟨_, hl, hat⟩ := World.cells?_some hc
        refine ⟨ys ++ [y], cells ++ cs', fi ++ fp, by simp [h1], h2.append (Rows.single hr), fun j u hu => ?_⟩
        have hcl := h2.len
        rw [h1] at hcl
        by_cases hj : j < cells.length
        · rw [List.getElem?_append_left hj] at hu; exact h3 j u hu
        · rw [List.getElem?_append_right (by omega)] at hu
          have hjl := (List.getElem?_eq_some_iff.1 hu).1
          have := hat (j - cells.length) (by omega)
          rw [hu, Go.E.add_add, ← hcl, show cells.length + (j - cells.length) = j by omega] at this
          exact this
    obtain ⟨ys, cells, fi, h1, h2, h3⟩ := key len (Nat.le_refl _)
    by_cases hce : cells = []
    · subst hce
      have : ys = [] := by
        have := h2.len
        cases ys with
        | nil => rfl
        | cons y r =>
          simp only [List.length_nil, List.length_cons, Nat.succ_mul] at this; omega
      subst this
      exact ⟨[], fi, _, rfl, some a, cap, [], fi, by rw [h1], ⟨by omega, by omega⟩, h2, .inl ⟨rfl, rfl, rfl⟩⟩
    · have hlt : a.block < W.heap.size := by
        have : 0 < cells.length := List.length_pos_iff.2 hce
        have h4 := h3 0 cells[0] (List.getElem?_eq_getElem this)
        have := World.block_lt_of_cell? W _ h4
        rwa [block_add] at this
      exact ⟨ys, a.block :: fi, _, rfl, some a, cap, cells, fi, by rw [h1], ⟨by omega, by omega⟩, h2, .inr ⟨a, rfl, hlt, h3, rfl⟩⟩
theorem open_field {s f ft off sz : Nat} {agg : Bool} (h : FieldT P s f ft off sz agg) {H : Type} {enc : TypeId × Value → H} {W : World} {base : Nat} {spare : Nat → Bool} {held : Bool} {fuel : Nat} {cs : List Value} {x : DataW H × List MemPlace}
    (hx : DataW.trod enc P W base spare held fuel s cs = some x) : ∃ y n, DataW.trod enc P W base spare held n ft ((cs.drop off).take sz) = some y := by
  obtain ⟨fs, fd, h1, h2, h3, h4, h5, h6, _⟩ := h.get
  obtain ⟨xs, n, _, _, hl, hxl, hf⟩ := DataW.trod_struct h1 hx
  have := hf f fd h2
  have hfl : f < xs.length := by rw [hxl]; exact (Array.getElem?_eq_some_iff.1 h2).1
  have hcz : P.cellsOf fd.type = sz := by
    have := h6 default
    rw [← h3] at this
    cases hi : P.info? fd.type with
    | none => simp [sizeOf, typeInfo, run_program, hi, stuck] at this
    | some i => simp [sizeOf, typeInfo, run_program, hi] at this; simp [Program.cellsOf, hi, this]
  rw [List.getElem?_eq_getElem hfl, h4, hcz, h3] at this
  exact ⟨_, n, this⟩
theorem struct_len {s : TypeId} {sz bytes : Nat} {z : List Value} (h : ElemT P s sz bytes z) {fs : Array Field} (hu : P.underlying s = some (.struct fs)) {H : Type} {enc : TypeId × Value → H} {W : World} {base : Nat} {spare : Nat → Bool} {held : Bool} {fuel : Nat} {cs : List Value} {x : DataW H × List MemPlace}
    (hx : DataW.trod enc P W base spare held fuel s cs = some x) : cs.length = sz := by
  obtain ⟨xs, n, _, _, hl, _⟩ := DataW.trod_struct hu hx
  rw [hl, cellsOf_eq h]
theorem FieldT.struct {s f ft off sz : Nat} {agg : Bool} (h : FieldT P s f ft off sz agg) : ∃ fs, P.underlying s = some (.struct fs) := by
  obtain ⟨fs, fd, h1, _⟩ := h.get
  exact ⟨fs, h1⟩
theorem opens_item {b1 : Nat} {z1 : List Value} {f0 f1 : Nat} (h : ElemT P t 2 b1 z1) (h0 : FieldT P t 0 f0 0 1 false) (h1 : FieldT P t 1 f1 1 1 false) (i0 : IntT P f0 .i64) (o1 : Opens P f1 (slR intR)) : Opens P t itemR := by
  intro H enc W base spare held fuel cs x hx
  obtain ⟨fs, hu⟩ := h0.struct
  have hl := struct_len h hu hx
  match cs, hl with
  | [c0, c1], _ =>
    obtain ⟨y0, n0, e0⟩ := open_field h0 hx
    obtain ⟨y1, n1, e1⟩ := open_field h1 hx
    obtain ⟨a, ea, _⟩ := DataW.trod_int i0.u e0
    obtain ⟨vs, fp, v, ev, hv⟩ := o1 H enc W base spare held n1 _ _ e1
    simp at ea ev
    subst ea; subst ev
    exact ⟨⟨a, vs⟩, fp, _, rfl, hv⟩
theorem opens_pair {b1 : Nat} {z1 : List Value} {f0 f1 : Nat} (h : ElemT P t 2 b1 z1) (h0 : FieldT P t 0 f0 0 1 false) (h1 : FieldT P t 1 f1 1 1 false) (i0 : IntT P f0 .i64) (i1 : IntT P f1 .i64) : Opens P t pairR := by
  intro H enc W base spare held fuel cs x hx
  obtain ⟨fs, hu⟩ := h0.struct
  have hl := struct_len h hu hx
  match cs, hl with
  | [c0, c1], _ =>
    obtain ⟨y0, n0, e0⟩ := open_field h0 hx
    obtain ⟨y1, n1, e1⟩ := open_field h1 hx
    obtain ⟨a, ea, _⟩ := DataW.trod_int i0.u e0
    obtain ⟨b, eb, _⟩ := DataW.trod_int i1.u e1
    simp at ea eb
    subst ea; subst eb
    exact ⟨(a, b), [], rfl, rfl⟩
theorem opens_wish {b1 : Nat} {z1 : List Value} {f0 f1 f2 f3 f4 : Nat} (h : ElemT P t 5 b1 z1) (h0 : FieldT P t 0 f0 0 1 false) (h1 : FieldT P t 1 f1 1 1 false) (h2 : FieldT P t 2 f2 2 1 false) (h3 : FieldT P t 3 f3 3 1 false) (h4 : FieldT P t 4 f4 4 1 false)
    (i0 : IntT P f0 .i64) (i1 : IntT P f1 .i64) (i2 : IntT P f2 .i64) (o3 : Opens P f3 (slR intR)) (o4 : Opens P f4 (slR pairR)) : Opens P t wishR := by
  intro H enc W base spare held fuel cs x hx
  obtain ⟨fs, hu⟩ := h0.struct
  have hl := struct_len h hu hx
  match cs, hl with
  | [c0, c1, c2, c3, c4], _ =>
    obtain ⟨y0, n0, e0⟩ := open_field h0 hx
    obtain ⟨y1, n1, e1⟩ := open_field h1 hx
    obtain ⟨y2, n2, e2⟩ := open_field h2 hx
    obtain ⟨y3, n3, e3⟩ := open_field h3 hx
    obtain ⟨y4, n4, e4⟩ := open_field h4 hx
    obtain ⟨a, ea, _⟩ := DataW.trod_int i0.u e0
    obtain ⟨b, eb, _⟩ := DataW.trod_int i1.u e1
    obtain ⟨c, ec, _⟩ := DataW.trod_int i2.u e2
    obtain ⟨vs, fp, v, ev, hv⟩ := o3 H enc W base spare held n3 _ _ e3
    obtain ⟨us, gp, u, eu, hu⟩ := o4 H enc W base spare held n4 _ _ e4
    simp at ea eb ec ev eu
    subst ea; subst eb; subst ec; subst ev; subst eu
    exact ⟨⟨a, b, c, vs, us⟩, fp ++ gp, _, _, fp, gp, rfl, rfl, hv, hu⟩
theorem opens_node {b1 : Nat} {z1 : List Value} {f0 f1 : Nat} (h : ElemT P t 6 b1 z1) (h0 : FieldT P t 0 f0 0 1 false) (h1 : FieldT P t 1 f1 1 5 true) (i0 : IntT P f0 .i64) (o1 : Opens P f1 wishR) : Opens P t nodeR := by
  intro H enc W base spare held fuel cs x hx
  obtain ⟨fs, hu⟩ := h0.struct
  have hl := struct_len h hu hx
  match cs, hl with
  | [c0, c1, c2, c3, c4, c5], _ =>
    obtain ⟨y0, n0, e0⟩ := open_field h0 hx
    obtain ⟨y1, n1, e1⟩ := open_field h1 hx
    obtain ⟨a, ea, _⟩ := DataW.trod_int i0.u e0
    obtain ⟨wv, fp, hv⟩ := o1 H enc W base spare held n1 _ _ e1
    simp at ea
    subst ea
    exact ⟨⟨a, wv⟩, fp, _, rfl, hv⟩
end
end Go.E

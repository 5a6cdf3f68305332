/-
  Slices of one's own whose elements may share what they hold; append to them. Conditions: as stated.
-/
import Derived.Test.YtnlleecmnjnphaaGreatWo
set_option linter.unusedVariables false
set_option linter.unusedSimpArgs false
namespace Go.E
open Go Go.RowKit Go.Proofs
/-- a row of one's own from block base on; its elements lie outside the row -/
structure OwnX {α : Type} (R : Rp α) (w : World) (base : Nat) (el : TypeId) (v : Value) (xs : List α) : Prop where
  ex : ∃ fi, Own R w base el v xs fi ∧ ∀ b, v.ownBlock = some b → b ∉ fi
section
variable {α : Type} {R : Rp α} {w w' : World} {base : Nat} {el : TypeId} {v : Value} {xs : List α}
theorem OwnF.x {fi : List Nat} (h : OwnF R w base el v xs fi) : OwnX R w base el v xs := ⟨fi, h.own, h.out⟩
theorem OwnX.keep (h : OwnX R w base el v xs) (k : Keep w w') : OwnX R w' base el v xs := by
  obtain ⟨fi, h1, h2⟩ := h.ex
  exact ⟨fi, h1.keep k, h2⟩
theorem OwnX.sl (h : OwnX R w base el v xs) (hs : 0 < R.sz) : ∃ f, Sl R w v xs f := by
  obtain ⟨fi, h1, h2⟩ := h.ex
  obtain ⟨f, h3, _⟩ := h1.sl hs
  exact ⟨f, h3⟩
theorem OwnX.lt (h : OwnX R w base el v xs) {b : Nat} (hb : v.ownBlock = some b) : base ≤ b ∧ b < w.heap.size := by
  obtain ⟨fi, h1, h2⟩ := h.ex
  exact h1.lt hb
theorem OwnX.split (h : OwnX R w base el v xs) : ∃ A n c, v = .slice A n c ∧ n = xs.length ∧ n ≤ c := by
  obtain ⟨fi, h1, h2⟩ := h.ex
  exact h1.split
theorem OwnX.made {b : Nat} (h : Blk w b el []) (hb : base ≤ b) : OwnX R w base el (.slice (some ⟨b, 0, none⟩) 0 0) [] := (OwnF.made h hb).x
theorem OwnX.src {A : Option Addr} {n c : Nat} (h : OwnX R w base el (.slice A n c) xs) : ∃ gi, Src R w A xs gi ∧ (∀ b, b ∈ gi → b < w.heap.size) ∧ ∀ b, (Value.slice A n c).ownBlock = some b → b ∉ gi := by
  obtain ⟨fi, h1, h2⟩ := h.ex
  exact ⟨fi, h1.srcF, h1.dom, h2⟩
theorem Sl.srcX {A : Option Addr} {n c : Nat} {fp : List Nat} (h : Sl R w (.slice A n c) xs fp) : ∃ gi, Src R w A xs gi ∧ (∀ b, b ∈ gi → b < w.heap.size) ∧ ∀ b, b ∈ gi → b ∈ fp := by
  obtain ⟨gi, h1, h2⟩ := h.src
  exact ⟨gi, h1, fun b hb => h.dom b (h2 b hb), h2⟩
theorem OwnX.grown (h : OwnX R w base el v xs) {row : Option Nat} (k : w.grownBy w' row) (hb : ∀ b, row = some b → w.heap.size ≤ b) : OwnX R w' base el v xs := by
  obtain ⟨fi, h1, h2⟩ := h.ex
  exact ⟨fi, h1.grown k (fun b hr => ⟨fun e => by have := (h1.lt e).2; have := hb b hr; omega, fun hm => by have := h1.dom b hm; have := hb b hr; omega⟩), h2⟩
end
theorem o_appX {P : Program} {N : Nat} {ops : Array Oper} {Q : Post} {rest : List Oper} {e : Env} {w : World} {t el ty : TypeId} {sz bytes : Nat} {zc : List Value} {d : Tmp} {x y : Operand} {pos : String} {af : Array Edge} {g : Option (Nat × Bool)}
    {α : Type} {R : Rp α} [ht : SliceT P t el] [he : ElemT P el sz bytes zc] {base : Nat} {v : Value} {xs ys : List α} {gi : List Nat} {A : Option Addr} {m c : Nat}
    (hg : gd ops e g = some true) (hd : Nat.blt d N = true) (hx : ev e x = some v) (hy : ev e y = some (.slice A m c)) (hsz : R.sz = sz) (hsz0 : 0 < sz)
    (ho : OwnX R w base el v xs) (hs : Src R w A ys gi) (hm : m = ys.length) (hgd : ∀ b, b ∈ gi → b < w.heap.size) (hf : ∀ b, v.ownBlock = some b → b ∉ gi)
    (h63 : xs.length + ys.length ≤ 4611686018427387904) (hbytes : (xs.length + ys.length) * bytes ≤ 140737488355328) (hbase : base ≤ w.heap.size)
    (kk : ∀ v' w', OwnX R w' base el v' (xs ++ ys) → w.grownBy w' v.ownBlock → (v'.ownBlock = v.ownBlock ∨ v'.ownBlock = some w.heap.size) → WL P N ops Q rest ((d, v') :: e) w') :
    WL P N ops Q (⟨some d, .call ⟨.builtin .append, #[x, y], #[t, t]⟩, ty, pos, af, g⟩ :: rest) e w := by
  obtain ⟨fi, h1, h2⟩ := ho.ex
  refine o_append hg hd hx hy hsz hsz0 h1 hs hm (fun b hb => ⟨h2 b hb, hf b hb⟩) h63 hbytes hbase fun v' w' h3 h4 h5 => kk v' w' ⟨fi ++ gi, h3, fun b hb hm' => ?_⟩ h4 h5
  rcases h5 with h | h
  · rw [h] at hb
    exact (List.mem_append.1 hm').elim (h2 b hb) (hf b hb)
  · rw [h] at hb
    simp only [Option.some.injEq] at hb
    rcases List.mem_append.1 hm' with h6 | h6
    · have := h1.dom b h6; omega
    · have := hgd b h6; omega
end Go.E

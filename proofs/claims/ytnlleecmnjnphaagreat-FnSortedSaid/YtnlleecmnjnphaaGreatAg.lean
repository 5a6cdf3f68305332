/-
  An append, and which block is one's own after it. Conditions: as stated.
-/
import Derived.Test.YtnlleecmnjnphaaGreatGk
set_option linter.unusedVariables false
set_option linter.unusedSimpArgs false
namespace Go.E
open Go Go.RowKit
section append
variable {P : Program} {N : Nat} {ops : Array Oper} {Q : Post} {rest : List Oper} {e : Env} {w : World}
  {ty : TypeId} {pos : String} {af : Array Edge} {g : Option (Nat × Bool)} {x y : Operand} {t el : TypeId} {sz bytes : Nat} {zc : List Value} {d : Tmp}
theorem o_appendG {α : Type} {R : Rp α} [ht : SliceT P t el] [he : ElemT P el sz bytes zc] {base M : Nat} {v : Value} {xs ys : List α} {fi gi : List Nat} {A : Option Addr} {m c : Nat}
    (hg : gd ops e g = some true) (hd : Nat.blt d N = true) (hx : ev e x = some v) (hy : ev e y = some (.slice A m c)) (hsz : R.sz = sz) (hsz0 : 0 < sz)
    (ho : OwnF R w base el v xs fi) (hs : Src R w A ys gi) (hm : m = ys.length) (hfg : Fresh base w gi)
    (hM1 : ∀ b, b ∈ fi → b < M) (hM2 : ∀ b, v.ownBlock = some b → b < M) (hM3 : ∀ b, b ∈ gi → M ≤ b)
    (h63 : xs.length + ys.length ≤ 4611686018427387904) (hbytes : (xs.length + ys.length) * bytes ≤ 140737488355328) (hbase : base ≤ w.heap.size)
    (kk : ∀ v' w', OwnF R w' base el v' (xs ++ ys) (fi ++ gi) → Below base w w' → w.grownBy w' v.ownBlock → (v'.ownBlock = v.ownBlock ∨ v'.ownBlock = some w.heap.size) → WL P N ops Q rest ((d, v') :: e) w') :
    WL P N ops Q (⟨some d, .call ⟨.builtin .append, #[x, y], #[t, t]⟩, ty, pos, af, g⟩ :: rest) e w := by
  refine o_append hg hd hx hy hsz hsz0 ho.own hs hm (fun b hb => ⟨ho.out b hb, fun hm' => ?_⟩) h63 hbytes hbase fun v' w' h1 h2 h3 => kk v' w' ⟨h1, ?_, fun b hb hm' => ?_⟩ (grown_below h2 hbase fun b hb => (ho.lt hb).1) h2 h3
  · have := hM2 b hb; have := hM3 b hm'; omega
  · have hfa : Fresh base w (fi ++ gi) := ho.fresh.append hfg fun b hb hm' => by have := hM1 b hb; have := hM3 b hm'; omega
    refine ⟨hfa.1, fun b hb => ⟨(hfa.2 b hb).1, ?_⟩⟩
    obtain ⟨t, cs, hc⟩ := (hfa.2 b hb).2
    refine ⟨t, cs, (h2.block b hc.lt fun e => ?_).trans hc⟩
    rcases List.mem_append.1 hb with hb' | hb'
    · exact ho.out b e.symm hb'
    · have := hM2 b e.symm; have := hM3 b hb'; omega
  · rcases h3 with h3 | h3
    · rw [h3] at hb
      rcases List.mem_append.1 hm' with hb' | hb'
      · exact ho.out b hb hb'
      · have := hM2 b hb; have := hM3 b hb'; omega
    · rw [h3] at hb
      simp only [Option.some.injEq] at hb
      rcases List.mem_append.1 hm' with hb' | hb'
      · have := ho.fresh.dom b hb'; omega
      · have := hfg.dom b hb'; omega
end append
/-- an append elsewhere leaves a row as it was -/
theorem Sl.grownN {α : Type} {R : Rp α} {w w' : World} {v : Value} {xs : List α} {fp : List Nat} {row : Option Nat} (h : Sl R w v xs fp) (k : w.grownBy w' row) (hn : ∀ b, row = some b → b ∉ fp) : Sl R w' v xs fp :=
  h.same fun b hb => k.block b (h.dom b hb) fun e => hn b e.symm hb
/-- the own block after an append lies outside a row still -/
theorem out_next {α : Type} {R : Rp α} {w : World} {v v' u : Value} {xs : List α} {fp : List Nat} (h : Sl R w u xs fp) (hn : ∀ b, v.ownBlock = some b → b ∉ fp) (k : v'.ownBlock = v.ownBlock ∨ v'.ownBlock = some w.heap.size) : ∀ b, v'.ownBlock = some b → b ∉ fp := by
  intro b hb hm
  rcases k with k | k
  · exact hn b (k ▸ hb) hm
  · have := h.dom b hm
    rw [k] at hb; simp only [Option.some.injEq] at hb; omega
end Go.E

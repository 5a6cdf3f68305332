/-
  Maps from numbers to numbers that the call itself has made: made, read, written. Conditions: as stated.
-/
import Derived.Test.YtnlleecmnjnphaaGreatGk
import Derived.Test.YtnlleecmnjnphaaGreatTys
import Derived.Maps.OwnOps
import Derived.Maps.Views
set_option linter.unusedVariables false
set_option linter.unusedSimpArgs false
namespace Go.E
open Go Go.RowKit Go.Proofs
open Go.Maps
theorem zero_int (w : World) : (zeroValue 3).run Tryz.prog w = .ok (.int .i64 0) w := by kernel_rfl
/-- block b is a map with at most n entries that reads as m -/
def IMap (w : World) (b n : Nat) (m : Int → Int) : Prop := ∃ D : DataW Unit, w.ownsMap Tryz.prog 3 (plainElem Tryz.prog 3) b n D ∧ (∃ es, D = .map es) ∧ ∀ x : Int, (Lit.int .i64 x).wf = true → D.atKey (.int .i64 x) (.lit (.int .i64 0)) = .lit (.int .i64 (m x))
section
variable {w w' : World} {b n : Nat} {m : Int → Int}
theorem IMap.lt (h : IMap w b n m) : b < w.heap.size := by obtain ⟨D, h1, _⟩ := h; exact h1.lt
theorem IMap.same (h : IMap w b n m) (hb : w'.heap[b]? = w.heap[b]?) : IMap w' b n m := by
  obtain ⟨D, ⟨es, clock, h1, h2⟩, h3⟩ := h
  exact ⟨D, ⟨es, clock, hb.trans h1, h2⟩, h3⟩
theorem IMap.keep (h : IMap w b n m) (k : Keep w w') : IMap w' b n m := h.same (k.block b h.lt)
theorem IMap.upd (h : IMap w b n m) {g : Nat} {t : TypeId} {cs : List Value} (k : Upd w w' g t cs) (hb : b ≠ g) : IMap w' b n m := h.same (k.other b hb)
theorem IMap.grown (h : IMap w b n m) {row : Option Nat} (k : w.grownBy w' row) (hb : some b ≠ row) : IMap w' b n m := h.same (k.block b h.lt hb)
theorem IMap.made (w : World) : IMap (w.alloc (.map #[] 0)) w.heap.size 0 (fun _ => 0) :=
  ⟨.map [], World.ownsMap_made w _ _ _, ⟨[], rfl⟩, fun x _ => rfl⟩
theorem keep_alloc (w : World) (o : Obj) : Keep w (w.alloc o) := (Below.refl _ _).alloc (Nat.le_refl _) o
end
section
variable {N : Nat} {ops : Array Oper} {Q : Post} {rest : List Oper} {e : Env} {w : World}
  {dst : Option Tmp} {ty : TypeId} {pos : String} {af : Array Edge} {g : Option (Nat × Bool)} {x y z : Operand} {t : TypeId} {d : Tmp}
theorem o_makeMap (hg : gd ops e g = some true) (hd : Nat.blt d N = true)
    (kk : ∀ w', IMap w' w.heap.size 0 (fun _ => 0) → Keep w w' → w'.heap.size = w.heap.size + 1 → WL Tryz.prog N ops Q rest ((d, .map (some w.heap.size)) :: e) w') :
    WL Tryz.prog N ops Q (⟨some d, .makeMap t none, ty, pos, af, g⟩ :: rest) e w :=
  WL_val (o := ⟨some d, .makeMap t none, ty, pos, af, g⟩) (w' := w.alloc (.map #[] 0)) hg hd (fun a ha => by
    have := run_makeMap (P := Tryz.prog) t w
    simp [execOp, this]) (kk _ (IMap.made w) (keep_alloc w _) (by simp))
theorem o_lookup [ht : MapT Tryz.prog t 3 3] {b n : Nat} {m : Int → Int} {k : Int} (hx : ev e x = some (.map (some b))) (hy : ev e y = some (.int .i64 k)) (hm : IMap w b n m) (hk : (Lit.int .i64 k).wf = true) :
    PureOp Tryz.prog N e w ⟨dst, .lookup t x y false, ty, pos, af, g⟩ (.int .i64 (m k)) := fun a ha => by
  obtain ⟨D, h1, _, h3⟩ := hm
  obtain ⟨c, hrun, hat, _⟩ := h1.lookup_int (int_keyed (IntT.u (P := Tryz.prog) (t := 3) (k := .i64))) ht.u (IntT.u (P := Tryz.prog) (t := 3) (k := .i64)) (zero_int w) (keyOf_int_mk (IntT.u (P := Tryz.prog) (t := 3) (k := .i64)) hk)
  rw [h3 k hk] at hat
  simp only [DataW.lit.injEq, Lit.int.injEq, true_and] at hat
  rw [hat]
  simp [execOp, ha.ev hx, ha.ev hy, hrun]
theorem o_mapUpdate [ht : MapT Tryz.prog t 3 3] {b n : Nat} {m : Int → Int} {k v : Int} (hg : gd ops e g = some true) (hx : ev e x = some (.map (some b))) (hy : ev e y = some (.int .i64 k)) (hz : ev e z = some (.int .i64 v)) (hm : IMap w b n m)
    (hk : (Lit.int .i64 k).wf = true) (hv : (Lit.int .i64 v).wf = true) (hn : n < maxLen)
    (kk : ∀ w', IMap w' b (n + 1) (fun q => if q = k then v else m q) → w.grownBy w' (some b) → WL Tryz.prog N ops Q rest e w') :
    WL Tryz.prog N ops Q (⟨none, .mapUpdate t x y z, ty, pos, af, g⟩ :: rest) e w := by
  obtain ⟨D, h1, hD, h3⟩ := hm
  have hkl := keyOf_int_mk (P := Tryz.prog) (k := 3) (IntT.u (P := Tryz.prog) (t := 3) (k := .i64)) hk
  obtain ⟨w', hrun, h4, h5⟩ := h1.update (int_keyed (IntT.u (P := Tryz.prog) (t := 3) (k := .i64))) ht.u hn hkl (plainElem_int (IntT.u (P := Tryz.prog) (t := 3) (k := .i64)) hv)
  refine WL_unit (o := ⟨none, .mapUpdate t x y z, ty, pos, af, g⟩) (w' := w') hg rfl (fun a ha => ?_) (kk w' ⟨_, h4, ?_, fun q hq => ?_⟩ h5)
  · simp [execOp, ha.ev hx, ha.ev hy, ha.ev hz, hrun]
  · obtain ⟨es, rfl⟩ := hD; exact ⟨_, rfl⟩
  · show _ = DataW.lit (Lit.int .i64 (if q = k then v else m q))
    by_cases he : q = k
    · subst he
      rw [atKey_put_same (k := Lit.int .i64 q) hD trivial, if_pos rfl]
    · rw [atKey_put_other (by intro h; simp at h; exact he h), h3 q hq, if_neg he]
end
end Go.E

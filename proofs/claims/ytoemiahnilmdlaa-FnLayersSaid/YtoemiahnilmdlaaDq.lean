/-
  Contracts: what the law on layers draws. Conditions: as stated.
-/
import Derived.Test.YtoemiahnilmdlaaGd
set_option linter.unusedVariables false
set_option linter.unusedSimpArgs false
namespace Go.E
open Go Go.RowKit Go.Proofs
attribute [local irreducible] W WL WD WE thenE inE retQ PureOp Keep Cell Cells Blk Sl Rows Own Src Fresh
attribute [local irreducible] Cur
theorem DrawLayerOf_ok {w : World} {v : Value} {xs : List Int} {fp : List Nat} (hx : Sl u8R w v xs fp) (hn : xs.length ≤ 1048576) :
    Run Try.prog 70 [v] w (fun r w' => Keep w w' ∧ ∃ (u v : Value) (L : List Itm) (E : List Nod) (fi gi : List Nat) (id : Int), r = .tuple #[u, v, .int .i64 id] ∧ Sl itemR w' u L fi ∧ L.length ≤ 101 ∧ small L ∧ Sl nodeR w' v E gi ∧ E.length ≤ 8 ∧ smallE E) := by
  refine Run_intro Try.func70 (by unfold CallOk; kernel_rfl) rfl Try.ntmps70 (Nat.le_of_ble_eq_true rfl) ?_
  simp only [penv, Nat.reduceAdd, Nat.zero_add]
  repeat refine zz ?_
  refine o_call rfl rfl rfl (l7Id_ok hx hn) ?_
  rintro _ w2 ⟨hk, u, v, L, E, fi, gi, id, rfl, hs, hl, hsm, hsE, hlE, hsmE⟩
  repeat refine zz ?_
  exact ret3 rfl rfl rfl rfl ⟨hk, _, _, L, E, fi, gi, _, rfl, hs, hl, hsm, hsE, hlE, hsmE⟩

set_option maxHeartbeats 2000000 in
theorem DrawSkybandOf_ok {w : World} {v : Value} {xs : List Int} {fp : List Nat} (hx : Sl u8R w v xs fp) (hn : xs.length ≤ 1048576) :
    Run Try.prog 78 [v] w (fun r w' => Keep w w' ∧ ∃ (u v : Value) (L : List Itm) (E : List Nod) (fi ge : List Nat) (q : Int), r = .tuple #[u, v, .int .i64 q] ∧ Sl itemR w' u L fi ∧ L.length ≤ 101 ∧ small L ∧ Sl nodeR w' v E ge ∧ E.length ≤ 8 ∧ smallE E ∧ -1 ≤ q ∧ q ≤ 255) := by
  refine Run_intro Try.func78 (by unfold CallOk; kernel_rfl) rfl Try.ntmps78 (Nat.le_of_ble_eq_true rfl) ?_
  simp only [penv, Nat.reduceAdd, Nat.zero_add]
  repeat refine zz ?_
  refine o_call rfl rfl rfl (l1New_ok hx hn) ?_
  rintro _ w1 ⟨b, rfl, hb, hc, hk⟩
  have hkk : ∀ {w'}, Wrs w1 w' [b] → Keep w w' := fun h => h.keep hk (fun c hc => by simp at hc; omega)
  have hbl := hc.lt
  repeat refine zz ?_
  refine o_call rfl rfl rfl (l7Draw_ok hc) ?_
  rintro _ w2 ⟨u, v, L, E, fi, ge, rfl, hs, hgs, hl, hsm, hsE, hgE, hlE, hsmE, hc2, hw⟩
  have hgb : b ∉ fi := fun hm => by have := hgs _ hm; omega
  have hgbE : b ∉ ge := fun hm => by have := hgE _ hm; omega
  repeat refine zz ?_
  refine o_call rfl rfl rfl (l1Below_ok hc2 (by omega)) ?_
  rintro _ w3 ⟨q, rfl, hq0, hq1, hq2, hc3, hw3⟩
  replace hw := hw.trans hw3
  replace hs := hs.wrs hw3 (fun k h1 h2 => hgb (by simp at h2; exact h2 ▸ h1))
  replace hsE := hsE.wrs hw3 (fun k h1 h2 => hgbE (by simp at h2; exact h2 ▸ h1))
  repeat refine zz ?_
  exact ret3 rfl rfl rfl rfl ⟨hkk hw, _, _, L, E, fi, ge, _, rfl, hs, hl, hsm, hsE, hlE, hsmE, by omega, by omega⟩

set_option maxHeartbeats 2000000 in
theorem DrawProgress_ok {w : World} {v : Value} {xs : List Int} {fp : List Nat} (hx : Sl u8R w v xs fp) (hn : xs.length ≤ 1048576) :
    Run Try.prog 80 [v] w (fun r w' => Keep w w' ∧ ∃ (L : List Itm) (fi : List Nat), Sl itemR w' r L fi ∧ L.length ≤ 100 ∧ small L) := by
  refine Run_intro Try.func80 (by unfold CallOk; kernel_rfl) rfl Try.ntmps80 (Nat.le_of_ble_eq_true rfl) ?_
  simp only [penv, Nat.reduceAdd, Nat.zero_add]
  repeat refine zz ?_
  refine o_call rfl rfl rfl (l1New_ok hx hn) ?_
  rintro _ w1 ⟨b, rfl, hb, hc, hk⟩
  have hkk : ∀ {w'}, Wrs w1 w' [b] → Keep w w' := fun h => h.keep hk (fun c hc => by simp at hc; omega)
  repeat refine zz ?_
  refine o_call rfl rfl rfl (l2Items_ok hc (by omega) (by omega)) ?_
  rintro v2 w2 ⟨L, fi, ho, hl, hsm, hc2, hw⟩
  obtain ⟨f, hs, _⟩ := ho.sl (by decide)
  repeat refine zz ?_
  exact ret1 rfl rfl ⟨hkk hw, L, f, hs, hl, hsm⟩
end Go.E

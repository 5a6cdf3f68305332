/-
  Contracts of the laws' helpers: marking and holding slices of numbers, and slices of such. Conditions: as stated.
-/
import Derived.Test.YtomkdoppjimhoaaLa
import Derived.Test.YtomkdoppjimhoaaMrk
set_option linter.unusedVariables false
set_option linter.unusedSimpArgs false
namespace Go.E
open Go Go.RowKit Go.Proofs
attribute [local irreducible] W WL WD WE thenE inE retQ PureOp Keep Cell Cells Blk Sl Rows Own Src Fresh

theorem markIntS_ok {w : World} {v : Value} {xs : List Int} {fp : List Nat} {B : Nat} {k : Int} (hx : Sl intR w v xs fp) (hf : Fresh B w fp) (hk0 : 0 ≤ k) (hk1 : k + xs.length ≤ 4611686018427387904) :
    Run Try.prog 43 [v, .int .i64 k] w (fun r w' => r = .int .i64 (k + xs.length) ∧ Sl intR w' v (iota k xs.length) fp ∧ Fresh B w' fp ∧ Wrs w w' fp) := by
  obtain ⟨A, n, c, rfl, hnx⟩ := hx.split
  refine Run_intro Try.func43 (by unfold CallOk; kernel_rfl) rfl Try.ntmps43 (Nat.le_of_ble_eq_true rfl) ?_
  simp only [penv, Nat.reduceAdd, Nat.zero_add]
  repeat refine zz ?_
  refine W_loop (S := Nat × List Int) (fun s => [(0, .slice A n c), (1, .int .i64 (k + (s.1 : Int))), (5, .int .i64 (s.1 : Int))]) (fun s w' => s.1 ≤ n ∧ s.2.length = n ∧ Sl intR w' (.slice A n c) s.2 fp ∧ Fresh B w' fp ∧ Wrs w w' fp ∧ ∀ i, i < s.1 → gi s.2 (i : Int) = k + (i : Int)) (fun s => n - s.1) (0, xs) ⟨rfl, find_int rfl (by omega), rfl, trivial⟩ ⟨Nat.zero_le _, hnx.symm, hx, hf, Wrs.refl _, fun i hi => absurd hi (by omega)⟩ ?_
  rintro ⟨i, ys⟩ w1 ⟨hi, hl, hys, hf1, hw1, hall⟩
  dsimp only at hi hl hys hall ⊢
  repeat refine zz ?_
  refine W_cond rfl (fun hc => ?_) (fun hc => ?_)
  · have hin : i < n := by simp at hc; omega
    obtain ⟨hA, hck⟩ := hys.getI (i := (i : Int)) (by omega) (by omega)
    repeat refine zz ?_
    refine o_storeC rfl rfl hck rfl rfl hf1 (fun ad had => ?_) ?_
    · obtain ⟨ad', h1, h2⟩ := ea_block had
      rw [h2]; exact hys.blocks (by decide) (by omega) ad' h1
    intro w2 hp
    have hys2 := hys.put hf1.nd (by decide) hin (j := 0) (x' := k + (i : Int)) (by decide) (fun _ ck fk hr => ⟨by rw [hr.1]; rfl, hr.2⟩) (by rw [fa_zero]; rfl) hp
    repeat refine zz ?_
    refine ⟨(i + 1, _), ⟨rfl, find_int rfl (by omega), rfl, trivial⟩, ⟨by dsimp only; omega, by simp [hl], hys2, hf1.put hp, hw1.trans (hp.wrs_of fun ad had => ?_), fun j hj => ?_⟩, by dsimp only; omega⟩
    · obtain ⟨ad', h1, h2⟩ := ea_block had
      rw [h2]; exact hys.blocks (by decide) (by omega) ad' h1
    · rw [gi_set (by omega)]
      split
      · rename_i h; subst h; rfl
      · exact hall j (by dsimp only at hj; omega)
  · simp at hc
    obtain rfl : i = n := by omega
    repeat refine zz ?_
    have he : ys = iota k i := gi_ext (by rw [iota_len, hl]) fun j hj => by rw [gi_iota (by omega)]; exact hall j (by omega)
    subst he
    exact ret1 rfl rfl ⟨by rw [hnx], by rw [← hnx]; exact hys, hf1, hw1⟩

theorem heldIntS_ok {w : World} {v : Value} {xs : List Int} {fp : List Nat} {k : Int} (hx : Sl intR w v xs fp) (hk0 : 0 ≤ k) (hk1 : k + xs.length ≤ 4611686018427387904) :
    Run Try.prog 44 [v, .int .i64 k] w (fun r w' => r = .int .i64 (heldI k xs) ∧ w = w') := by
  obtain ⟨A, n, c, rfl, hnx⟩ := hx.split
  refine Run_intro Try.func44 (by unfold CallOk; kernel_rfl) rfl Try.ntmps44 (Nat.le_of_ble_eq_true rfl) ?_
  simp only [penv, Nat.reduceAdd, Nat.zero_add]
  repeat refine zz ?_
  refine W_loop (S := Nat) (fun i => [(0, .slice A n c), (1, .int .i64 (k + (i : Int))), (5, .int .i64 (i : Int))]) (fun i w' => w = w' ∧ i ≤ n ∧ ∀ j, j < i → gi xs (j : Int) = k + (j : Int)) (fun i => n - i) 0 ⟨rfl, find_int rfl (by omega), rfl, trivial⟩ ⟨rfl, Nat.zero_le _, fun i hi => absurd hi (by omega)⟩ ?_
  rintro i _ ⟨rfl, hi, hall⟩
  repeat refine zz ?_
  refine W_cond rfl (fun hc => ?_) (fun hc => ?_)
  · have hin : i < n := by simp at hc; omega
    obtain ⟨hA, hck⟩ := hx.getI (i := (i : Int)) (by omega) (by omega)
    repeat refine zz ?_
    refine W_cond rfl (fun hd => ?_) (fun hd => ?_)
    · simp at hd
      repeat refine zz ?_
      refine ret1 rfl rfl ⟨?_, rfl⟩
      have : xs ≠ iota k xs.length := fun e => hd (by rw [e, gi_iota (by omega)])
      simp [heldI, this]
    · simp at hd
      repeat refine zz ?_
      exact ⟨i + 1, ⟨rfl, find_int rfl (by omega), rfl, trivial⟩, ⟨rfl, by omega, fun j hj => by
        rcases Nat.lt_or_ge j i with h1 | h1
        · exact hall j h1
        · have : j = i := by omega
          subst this; exact hd⟩, by omega⟩
  · simp at hc
    obtain rfl : i = n := by omega
    repeat refine zz ?_
    have he : xs = iota k xs.length := gi_ext (by rw [iota_len]) fun j hj => by rw [gi_iota (by omega)]; exact hall j (by omega)
    refine ret1 rfl rfl ⟨?_, rfl⟩
    rw [heldI, if_pos he, hnx]

theorem slR_get {w : World} {A : Option Addr} {n c : Nat} {xss : List (List Int)} {fp : List Nat} (h : Sl (slR intR) w (.slice A n c) xss fp) {i : Int} (h0 : 0 ≤ i) (hi : i < n) :
    A.isSome = true ∧ ∃ u f, Cell w (ea A 1 i) u ∧ Sl intR w u (gi xss i) f ∧ (∀ b, b ∈ f → b ∈ fp) := by
  obtain ⟨hA, cs, f, ⟨u, rfl, hu⟩, hf, hc⟩ := h.get h0 hi
  exact ⟨hA, u, f, hc.one, hu, hf⟩

theorem heldI_nonneg {k : Int} {xs : List Int} (hk : 0 ≤ k) (h : ¬ heldI k xs < 0) : heldI k xs = k + (xs.length : Int) := by
  unfold heldI at h ⊢
  split
  · rfl
  · rename_i hne; rw [if_neg hne] at h; omega

end Go.E

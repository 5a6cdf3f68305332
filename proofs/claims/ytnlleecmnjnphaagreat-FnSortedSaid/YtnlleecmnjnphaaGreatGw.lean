/-
  Several of my texts in one: W1 W2 W3 W4 W5 W6 W7. Conditions: as stated at each.
-/
import Derived.Test.YtnlleecmnjnphaaGreatBs
import Derived.Test.YtnlleecmnjnphaaGreatPo
import Derived.Test.YtnlleecmnjnphaaGreatFa
import Derived.Test.YtnlleecmnjnphaaGreatL9
import Derived.Test.YtnlleecmnjnphaaGreatSt
set_option linter.unusedVariables false
set_option linter.unusedSimpArgs false
namespace Go.E
open Go Go.RowKit Go.Proofs
/-- a table of ten by ten truth values -/
structure Grid (cs : List Value) (f : Nat → Nat → Bool) : Prop where
  len : cs.length = 100
  val : ∀ i j, i < 10 → j < 10 → cs[i * 10 + j]? = some (.bool (f i j))
theorem Grid.one {cs : List Value} {f : Nat → Nat → Bool} (h : Grid cs f) : ∀ v, v ∈ cs → v.oneCell' = true := by
  intro v hv
  obtain ⟨n, hn, rfl⟩ := List.getElem_of_mem hv
  have hl := h.len
  have := h.val (n / 10) (n % 10) (by omega) (by omega)
  rw [show n / 10 * 10 + n % 10 = n by omega, List.getElem?_eq_getElem hn] at this
  simp only [Option.some.injEq] at this
  rw [this]; rfl
theorem Grid.set {cs : List Value} {f g : Nat → Nat → Bool} (h : Grid cs f) {i j : Nat} {b : Bool} (hi : i < 10) (hj : j < 10) (hg : ∀ i' j', i' < 10 → j' < 10 → g i' j' = if i' = i ∧ j' = j then b else f i' j') : Grid (cs.set (i * 10 + j) (.bool b)) g := by
  have hl := h.len
  refine ⟨by simp [hl], fun i' j' hi' hj' => ?_⟩
  rw [List.getElem?_set, hg i' j' hi' hj']
  by_cases he : i * 10 + j = i' * 10 + j'
  · have h1 : i' = i ∧ j' = j := by omega
    rw [if_pos he, if_pos h1, if_pos (by omega)]
  · have h1 : ¬ (i' = i ∧ j' = j) := fun ⟨a, b⟩ => he (by rw [a, b])
    rw [if_neg he, if_neg h1]
    exact h.val i' j' hi' hj'
theorem Grid.congr {cs : List Value} {f g : Nat → Nat → Bool} (h : Grid cs f) (hg : ∀ i j, i < 10 → j < 10 → g i j = f i j) : Grid cs g :=
  ⟨h.len, fun i j hi hj => by rw [hg i j hi hj]; exact h.val i j hi hj⟩
theorem ea2_blk (b i j : Nat) : ea (ea (some ⟨b, 0, none⟩) 10 (i : Int)) 1 (j : Int) = some ⟨b, i * 10 + j, none⟩ := by simp [ea, add_mk]
theorem Grid.cell {w : World} {b : Nat} {t : TypeId} {cs : List Value} {f : Nat → Nat → Bool} (h : Grid cs f) (hb : Blk w b t cs) {i j : Int} (hi : 0 ≤ i ∧ i ≤ 9) (hj : 0 ≤ j ∧ j ≤ 9) : Cell w (ea (ea (some ⟨b, 0, none⟩) 10 i) 1 j) (.bool (f i.toNat j.toNat)) := by
  obtain ⟨i, rfl⟩ := Int.eq_ofNat_of_zero_le hi.1
  obtain ⟨j, rfl⟩ := Int.eq_ofNat_of_zero_le hj.1
  rw [ea2_blk]
  exact hb.cell (h.val i j (by omega) (by omega))
theorem gi_append_left {α : Type} [Inhabited α] {xs ys : List α} {i : Nat} (h : i < xs.length) : gi (xs ++ ys) (i : Int) = gi xs (i : Int) := by
  rw [gi_lt h, gi_lt (by rw [List.length_append]; omega), List.getElem_append_left h]
theorem gi_in {α : Type} [Inhabited α] {xs : List α} {i : Nat} (h : i < xs.length) : gi xs (i : Int) ∈ xs := by rw [gi_lt h]; exact List.getElem_mem h
theorem nodup_le : ∀ {xs ys : List Int}, xs.Nodup → (∀ x, x ∈ xs → x ∈ ys) → xs.length ≤ ys.length
  | [], ys, _, _ => Nat.zero_le _
  | x :: r, ys, hn, hs => by
    have hx : x ∈ ys := hs x (List.mem_cons_self ..)
    have hn' := List.nodup_cons.1 hn
    have := nodup_le (xs := r) (ys := ys.erase x) hn'.2 fun y hy => by
      have hne : y ≠ x := fun e => hn'.1 (e ▸ hy)
      exact (List.mem_erase_of_ne hne).2 (hs y (List.mem_cons_of_mem _ hy))
    rw [List.length_erase_of_mem hx] at this
    have : 0 < ys.length := List.length_pos_of_mem hx
    simp only [List.length_cons]; omega
attribute [local irreducible] W WL WD WE thenE inE retQ PureOp Keep Cell Cells Blk Sl Rows Own Src Fresh
attribute [local irreducible] reachB

theorem l3Valid_ok {w : World} {v : Value} {xs : List (Int × Int)} {fp : List Nat} (hx : Sl pairR w v xs fp) : Run Tryz.prog 111 [v] w (fun r w' => r = .bool (prOk xs && decide (xs.length ≤ 8)) ∧ w = w') := by
  have hn := hx.le
  obtain ⟨A, n, c, rfl, hnx⟩ := hx.split
  refine Run_intro Tryz.func111 (by unfold CallOk; kernel_rfl) rfl Tryz.ntmps111 (Nat.le_of_ble_eq_true rfl) ?_
  simp only [penv, Nat.reduceAdd, Nat.zero_add]
  repeat refine zz ?_
  refine W_loop (S := Nat) (fun k => [(0, .slice A n c), (3, .int .i64 (k : Int))]) (fun k w' => w = w' ∧ k ≤ n ∧ ∀ i, i < k → (fun i : Nat => inR (gi xs (i : Int)).1 0 9 && inR (gi xs (i : Int)).2 0 9) i = true) (fun k => n - k) 0 ⟨rfl, rfl, trivial⟩ ⟨rfl, Nat.zero_le _, fun i hi => absurd hi (by omega)⟩ ?_
  rintro k _ ⟨rfl, hk, hall⟩
  repeat refine zz ?_
  refine W_cond rfl (fun hc => ?_) (fun hc => ?_)
  · have hkn : k < n := by simp at hc; omega
    obtain ⟨hA, hck⟩ := pair_get hx (i := (k : Int)) (by omega) (by omega)
    repeat refine zz ?_
    refine o_call rfl rfl rfl (l1In_ok _ _ _ _) ?_
    rintro _ _ ⟨rfl, rfl⟩
    repeat refine zz ?_
    refine WL_part rfl rfl (fun h => ?_) (fun h => ?_)
    · simp at h
      repeat refine zz ?_
      exact ret1 rfl rfl ⟨by rw [prOk, allB_false (k := k) (by omega) (by simp [h]), Bool.false_and], rfl⟩
    · simp at h
      repeat refine zz ?_
      refine o_call rfl rfl rfl (l1In_ok _ _ _ _) ?_
      rintro _ _ ⟨rfl, rfl⟩
      repeat refine zz ?_
      refine W_cond rfl (fun h2 => ?_) (fun h2 => ?_)
      · simp at h2
        repeat refine zz ?_
        exact ret1 rfl rfl ⟨by rw [prOk, allB_false (k := k) (by omega) (by simp [h2]), Bool.false_and], rfl⟩
      · simp at h2
        repeat refine zz ?_
        exact ⟨k + 1, ⟨rfl, rfl, trivial⟩, ⟨rfl, by omega, all_step hall (by simp [h, h2])⟩, by omega⟩
  · simp at hc
    obtain rfl : k = n := by omega
    repeat refine zz ?_
    exact ret1 rfl rfl ⟨by rw [prOk, allB_true (by rwa [← hnx]), Bool.true_and, ← hnx]; congr 1; rw [decide_eq_decide]; omega, rfl⟩

set_option maxHeartbeats 1000000 in
theorem l3Reach_ok {w : World} {v : Value} {l : List (Int × Int)} {fp : List Nat} {a b : Int} (hx : Sl pairR w v l fp) (hp : prOk l = true) (hn : l.length ≤ 1048576) :
    Run Tryz.prog 93 [v, .int .i64 a, .int .i64 b] w (fun r w' => r = .bool (reachB l a b) ∧ Keep w w') := by
  obtain ⟨A, n, c, rfl, hnx⟩ := hx.split
  have hres : ∀ t : Bool, (t = true ↔ Rch l a b) → reachB l a b = t := fun t ht => by
    rw [Bool.eq_iff_iff, reach_iff hp, ht]
  refine Run_intro Tryz.func93 (by unfold CallOk; kernel_rfl) rfl Tryz.ntmps93 (Nat.le_of_ble_eq_true rfl) ?_
  simp only [penv, Nat.reduceAdd, Nat.zero_add]
  repeat refine zz ?_
  refine o_buildSlice rfl rfl rfl rfl rfl (by simp [Value.cells]) (by omega) ?_
  intro b0 w1 hal
  have hk1 := hal.kp
  have ho1 : OwnF intR w1 w.heap.size 3 (.slice (some ⟨b0, 0, none⟩) 1 1) [a] [] := by
    refine ⟨Own.full (xs := [a]) hal.blk (Rows.ints _ _) (by simp only [List.length_cons, List.length_nil, maxLen]; omega) (by have := hal.b_eq; omega), Fresh.nil _ _, fun b hb => by simp⟩
  repeat refine zz ?_
  refine W_loop (S := Nat × Value × List Int) (fun s => [(0, .slice A n c), (1, .int .i64 a), (2, .int .i64 b), (7, s.2.1), (8, .int .i64 (s.1 : Int))]) (fun s w' => Keep w w' ∧ s.1 ≤ s.2.2.length ∧ OwnF intR w' w.heap.size 3 s.2.1 s.2.2 [] ∧ s.2.2.Nodup ∧ (∀ x, x ∈ s.2.2 → x ∈ a :: l.map Prod.snd) ∧ a ∈ s.2.2 ∧ (∀ x, x ∈ s.2.2 → x = a ∨ Rch l a x) ∧ ∀ i, i < s.1 → ∀ q, (gi s.2.2 (i : Int), q) ∈ l → q ∈ s.2.2 ∧ q ≠ b)
    (fun s => n + 2 - s.1) (0, _, [a]) ⟨rfl, rfl, rfl, rfl, rfl, trivial⟩ ⟨hk1, by simp, ho1, by simp, by simp, by simp, by simp, fun i hi => absurd hi (by dsimp only; omega)⟩ ?_
  rintro ⟨i, va, S⟩ wa ⟨hka, hi, hoa, hnd, hsub, haS, hsnd, hcl⟩
  dsimp only at hi hoa hnd hsub haS hsnd hcl ⊢
  have hSl : S.length ≤ n + 1 := by have := nodup_le hnd hsub; simpa [← hnx] using this
  obtain ⟨Ao, no, co, rfl, hno, hnc⟩ := hoa.split
  repeat refine zz ?_
  refine W_cond rfl (fun hc => ?_) (fun hc => ?_)
  · have hin : i < no := by simp at hc; omega
    repeat refine zz ?_
    refine W_loop (S := Nat × Value × List Int) (fun s => [(0, .slice A n c), (1, .int .i64 a), (2, .int .i64 b), (7, s.2.1), (8, .int .i64 (i : Int)), (9, .int .i64 (s.1 : Int))]) (fun s w' => Keep w w' ∧ s.1 ≤ n ∧ i < s.2.2.length ∧ OwnF intR w' w.heap.size 3 s.2.1 s.2.2 [] ∧ s.2.2.Nodup ∧ (∀ x, x ∈ s.2.2 → x ∈ a :: l.map Prod.snd) ∧ a ∈ s.2.2 ∧ (∀ x, x ∈ s.2.2 → x = a ∨ Rch l a x) ∧ (∀ i', i' < i → ∀ q, (gi s.2.2 (i' : Int), q) ∈ l → q ∈ s.2.2 ∧ q ≠ b) ∧ ∀ j, j < s.1 → (gi l (j : Int)).1 = gi s.2.2 (i : Int) → (gi l (j : Int)).2 ∈ s.2.2 ∧ (gi l (j : Int)).2 ≠ b)
      (fun s => n - s.1) (0, _, S) ⟨rfl, rfl, rfl, rfl, rfl, rfl, trivial⟩ ⟨hka, by omega, by dsimp only; omega, hoa, hnd, hsub, haS, hsnd, hcl, fun j hj => absurd hj (by dsimp only; omega)⟩ ?_
    clear hoa hnd hsub haS hsnd hcl hka hSl hno hnc hin hi
    rintro ⟨j, va, S⟩ wb ⟨hkb, hj, hiS, hob, hnd, hsub, haS, hsnd, hcl, hjn⟩
    dsimp only at hj hiS hob hnd hsub haS hsnd hcl hjn ⊢
    have hSl : S.length ≤ n + 1 := by have := nodup_le hnd hsub; simpa [← hnx] using this
    obtain ⟨Ao, no, co, rfl, hno, hnc⟩ := hob.split
    have hxb := hx.keep hkb
    repeat refine zz ?_
    refine W_cond rfl (fun hcj => ?_) (fun hcj => ?_)
    · have hjl : j < n := by simp at hcj; omega
      obtain ⟨hA, hck⟩ := pair_get hxb (i := (j : Int)) (by omega) (by omega)
      obtain ⟨fo, hso, hfo⟩ := hob.sl (by decide)
      obtain ⟨hAo, hcs⟩ := hso.getI (i := (i : Int)) (by omega) (by omega)
      have hmem : ((gi l (j : Int)).1, (gi l (j : Int)).2) ∈ l := by have := gi_in (xs := l) (i := j) (by omega); exact this
      repeat refine zz ?_
      refine W_quiet (Keep wb) (by kernel_rfl) (by kernel_rfl) (Keep.drew _) ?_
      repeat refine qq ?_
      intro wd hkd 
      replace hkb := hkb.keep hkd
      replace hob := hob.keep hkd
      replace hck := hck.keep hkd
      replace hso := hso.keep hkd
      repeat refine zz ?_
      refine W_cond rfl (fun hne => ?_) (fun hne => ?_)
      · simp at hne
        repeat refine zz ?_
        exact ⟨(j + 1, _, S), ⟨rfl, rfl, rfl, rfl, rfl, rfl, trivial⟩, ⟨hkb, by dsimp only; omega, hiS, hob, hnd, hsub, haS, hsnd, hcl, fun j' hj' he => by
          rcases Nat.lt_or_ge j' j with h1 | h1
          · exact hjn j' h1 he
          · have : j' = j := by dsimp only at hj'; omega
            subst this; exact absurd he hne⟩, by dsimp only; omega⟩
      · simp at hne
        have hrS : Rch l a (gi l (j : Int)).2 := by
          rw [hne] at hmem
          rcases hsnd _ (gi_in (xs := S) (i := i) hiS) with h1 | h1
          · rw [h1] at hmem; exact .one hmem
          · exact h1.trans (.one hmem)
        repeat refine zz ?_
        refine W_cond rfl (fun hqb => ?_) (fun hqb => ?_)
        · simp at hqb
          repeat refine zz ?_
          exact ret1 rfl rfl ⟨by rw [hres true (by simp only [true_iff]; rw [← hqb]; exact hrS)], hkb⟩
        · simp at hqb
          repeat refine zz ?_
          refine o_call rfl rfl rfl (l2Has_ok hso) ?_
          rintro _ _ ⟨rfl, rfl⟩
          repeat refine zz ?_
          refine W_cond rfl (fun hh => ?_) (fun hh => ?_)
          · simp at hh
            repeat refine zz ?_
            refine o_buildSlice rfl rfl rfl rfl rfl (by simp [Value.cells]) (by omega) ?_
            intro b2 w2 hal2
            have hkz := hkb.size_le
            replace hkb := hkb.keep hal2.kp
            replace hob := hob.keep hal2.kp
            repeat refine zz ?_
            refine o_appendF (R := intR) (M := _) (gi := []) rfl rfl rfl rfl rfl (by decide) hob (Blk.src (xs := [(gi l (j : Int)).2]) hal2.blk (Rows.ints _ _)) rfl (Fresh.nil _ _) (fun b hb => by simp at hb) (fun b hb => (hob.lt hb).2) (fun b hb => by simp at hb) (by simp only [List.length_cons, List.length_nil]; omega) (by simp only [List.length_cons, List.length_nil]; omega) (hkb.size_le) ?_
            intro v3 w3 ho3 hb3 hg3
            have hk3 : Keep w w3 := hkb.grown hg3 (fun b hb => (hob.lt hb).1)
            have hnS : (gi l (j : Int)).2 ∉ S := fun hm => by rw [hasI_iff.2 hm] at hh; cases hh
            repeat refine zz ?_
            refine ⟨(j + 1, v3, S ++ [(gi l (j : Int)).2]), ⟨rfl, rfl, rfl, rfl, rfl, rfl, trivial⟩, ⟨hk3, by dsimp only; omega, by dsimp only; rw [List.length_append]; omega, ho3, ?_, ?_, List.mem_append_left _ haS, ?_, ?_, ?_⟩, by dsimp only; omega⟩
            · exact List.nodup_append.2 ⟨hnd, by simp, fun x hx y hy => by
                have : y = (gi l (j : Int)).2 := by simpa using hy
                subst this; exact fun e => hnS (e ▸ hx)⟩
            · intro x hx
              rcases List.mem_append.1 hx with hx | hx
              · exact hsub x hx
              · have : x = (gi l (j : Int)).2 := by simpa using hx
                subst this
                exact List.mem_cons_of_mem _ (List.mem_map.2 ⟨_, gi_in (xs := l) (by omega), rfl⟩)
            · intro x hx
              rcases List.mem_append.1 hx with hx | hx
              · exact hsnd x hx
              · have : x = (gi l (j : Int)).2 := by simpa using hx
                subst this; exact .inr hrS
            · intro i' hi' q hq
              dsimp only at hq ⊢
              rw [gi_append_left (by omega)] at hq
              obtain ⟨h1, h2⟩ := hcl i' hi' q hq
              exact ⟨List.mem_append_left _ h1, h2⟩
            · intro j' hj' he
              dsimp only at hj' he ⊢
              rw [gi_append_left hiS] at he
              rcases Nat.lt_or_ge j' j with h1 | h1
              · obtain ⟨h2, h3⟩ := hjn j' h1 he
                exact ⟨List.mem_append_left _ h2, h3⟩
              · have : j' = j := by omega
                subst this
                exact ⟨List.mem_append_right _ (by simp), hqb⟩
          · simp at hh
            repeat refine zz ?_
            exact ⟨(j + 1, _, S), ⟨rfl, rfl, rfl, rfl, rfl, rfl, trivial⟩, ⟨hkb, by dsimp only; omega, hiS, hob, hnd, hsub, haS, hsnd, hcl, fun j' hj' he => by
              rcases Nat.lt_or_ge j' j with h1 | h1
              · exact hjn j' h1 he
              · have : j' = j := by dsimp only at hj'; omega
                subst this; exact ⟨hasI_iff.1 hh, hqb⟩⟩, by dsimp only; omega⟩
    · simp at hcj
      obtain rfl : j = n := by omega
      repeat refine zz ?_
      refine ⟨(i + 1, _, S), ⟨rfl, rfl, rfl, rfl, rfl, trivial⟩, ⟨hkb, by dsimp only; omega, hob, hnd, hsub, haS, hsnd, fun i' hi' q hq => ?_⟩, by dsimp only; omega⟩
      dsimp only at hi' hq ⊢
      rcases Nat.lt_or_ge i' i with h1 | h1
      · exact hcl i' h1 q hq
      · have : i' = i := by omega
        subst this
        obtain ⟨k, hk, he⟩ := List.getElem_of_mem hq
        have := hjn k (by omega)
        rw [gi_lt hk, he] at this
        exact this rfl
  · simp at hc
    have hie : i = S.length := by omega
    repeat refine zz ?_
    refine ret1 rfl rfl ⟨?_, hka⟩
    rw [hres false ?_]
    simp only [Bool.false_eq_true, false_iff]
    intro hr
    have hclosed : ∀ x y, x ∈ S → (x, y) ∈ l → y ∈ S := fun x y hx hxy => by
      obtain ⟨k, hk, he⟩ := List.getElem_of_mem hx
      have := hcl k (by omega) y (by rw [gi_lt hk, he]; exact hxy)
      exact this.1
    have hno : ∀ x, x ∈ S → (x, b) ∉ l := fun x hx hxy => by
      obtain ⟨k, hk, he⟩ := List.getElem_of_mem hx
      have := hcl k (by omega) b (by rw [gi_lt hk, he]; exact hxy)
      exact this.2 rfl
    obtain ⟨m, hm⟩ := hr
    rcases Rch.last m a b hm with h1 | ⟨q, ⟨m', h1⟩, h2⟩
    · exact hno a haS h1
    · exact hno q (Rch.closed (p := fun x => x ∈ S) hclosed m' a q haS h1) h2
end Go.E
set_option linter.unusedVariables false
set_option linter.unusedSimpArgs false
namespace Go.E
open Go Go.RowKit Go.Proofs
attribute [local irreducible] W WL WD WE thenE inE retQ PureOp Keep Cell Cells Blk Sl Rows Own Src Fresh
attribute [local irreducible] reachB

theorem spec_ArePairs_ok {w : World} {v : Value} {l : List (Int × Int)} {fp : List Nat} (hx : Sl pairR w v l fp) (hn : l.length ≤ 1048576) :
    Run Tryz.prog 104 [v] w (fun r w' => r = .bool (arePairs l) ∧ Keep w w') := by
  refine Run_intro Tryz.func104 (by unfold CallOk; kernel_rfl) rfl Tryz.ntmps104 (Nat.le_of_ble_eq_true rfl) ?_
  simp only [penv, Nat.reduceAdd, Nat.zero_add]
  repeat refine zz ?_
  refine o_call rfl rfl rfl (l3Valid_ok hx) ?_
  rintro _ _ ⟨rfl, rfl⟩
  repeat refine zz ?_
  refine W_cond rfl (fun h => ?_) (fun h => ?_)
  · simp only [Bool.not_eq_true'] at h
    repeat refine zz ?_
    exact ret1 rfl rfl ⟨by rw [arePairs, h, Bool.false_and], Keep.refl _⟩
  · simp only [Bool.not_eq_false'] at h
    have hp : prOk l = true := (Bool.and_eq_true _ _ ▸ h).1
    repeat refine zz ?_
    refine W_loop (S := Nat) (fun k => [(0, v), (3, .int .i64 (k : Int))]) (fun k w' => Keep w w' ∧ k ≤ 10 ∧ ∀ i, i < k → (fun i : Nat => !reachB l (i : Int) (i : Int)) i = true) (fun k => 10 - k) 0 ⟨rfl, rfl, trivial⟩ ⟨Keep.refl _, Nat.zero_le _, fun i hi => absurd hi (by omega)⟩ ?_
    rintro k w1 ⟨hk1, hk, hall⟩
    replace hx := hx.keep hk1
    repeat refine zz ?_
    refine W_cond rfl (fun hc => ?_) (fun hc => ?_)
    · have hkn : k < 10 := by simp at hc; omega
      repeat refine zz ?_
      refine o_call rfl rfl rfl (l3Reach_ok hx hp hn) ?_
      rintro _ w2 ⟨rfl, hk2⟩
      repeat refine zz ?_
      refine W_cond rfl (fun hd => ?_) (fun hd => ?_)
      · repeat refine zz ?_
        exact ret1 rfl rfl ⟨by rw [arePairs, h, Bool.true_and, noLoop, allB_false (k := k) (by omega) (by simp [hd])], hk1.keep hk2⟩
      · repeat refine zz ?_
        exact ⟨k + 1, ⟨rfl, rfl, trivial⟩, ⟨hk1.keep hk2, by omega, all_step hall (by simp [hd])⟩, by omega⟩
    · simp at hc
      obtain rfl : k = 10 := by omega
      repeat refine zz ?_
      exact ret1 rfl rfl ⟨by rw [arePairs, h, Bool.true_and, noLoop, allB_true hall], hk1⟩

theorem l4List_ok {w : World} {v : Value} {xs : List Int} {fp : List Nat} (hx : Sl intR w v xs fp) : Run Tryz.prog 103 [v] w (fun r w' => r = .bool (ascL xs && decide (0 < xs.length)) ∧ Keep w w') := by
  have hn := hx.le
  obtain ⟨A, n, c, rfl, hnx⟩ := hx.split
  refine Run_intro Tryz.func103 (by unfold CallOk; kernel_rfl) rfl Tryz.ntmps103 (Nat.le_of_ble_eq_true rfl) ?_
  simp only [penv, Nat.reduceAdd, Nat.zero_add]
  repeat refine zz ?_
  refine W_loop (S := Nat) (fun k => [(0, .slice A n c), (3, .int .i64 (k : Int))]) (fun k w' => Keep w w' ∧ k ≤ n ∧ ∀ i, i < k → ascAt 9 xs i = true) (fun k => n - k) 0 ⟨rfl, rfl, trivial⟩ ⟨Keep.refl _, Nat.zero_le _, fun i hi => absurd hi (by omega)⟩ ?_
  rintro k w1 ⟨hk1, hk, hall⟩
  replace hx := hx.keep hk1
  repeat refine zz ?_
  refine W_cond rfl (fun hc => ?_) (fun hc => ?_)
  · have hkn : k < n := by simp at hc; omega
    obtain ⟨hA, hck⟩ := hx.getI (i := (k : Int)) (by omega) (by omega)
    repeat refine zz ?_
    refine W_quiet (Keep w1) (by kernel_rfl) (by kernel_rfl) (Keep.drew _) ?_
    repeat refine qq ?_
    refine WQ_call rfl rfl rfl (fun w' hw' => (l1In_ok _ _ _ _).kp hw') ?_
    repeat refine qq ?_
    refine WQ_part rfl rfl (fun h => ?_) (fun h => ?_)
    · repeat refine qq ?_
      intro w2 hk2 
      repeat refine zz ?_
      refine ret1 rfl rfl ⟨?_, hk1.keep hk2⟩
      simp at h
      rw [ascL, allB_false (k := k) (by omega) (by simp [ascAt, h]), Bool.false_and]
    · simp at h
      repeat refine qq ?_
      refine WQ_part rfl rfl (fun h2 => ?_) (fun h2 => ?_)
      · simp at h2
        obtain ⟨hA', hck'⟩ := hx.getI (i := (k : Int) - 1) (by omega) (by omega)
        repeat refine qq ?_
        intro w2 hk2 
        repeat refine zz ?_
        refine W_cond rfl (fun h3 => ?_) (fun h3 => ?_)
        · repeat refine zz ?_
          refine ret1 rfl rfl ⟨?_, hk1.keep hk2⟩
          simp at h3
          rw [ascL, allB_false (k := k) (by omega) (by simp [ascAt, h, h3]; omega), Bool.false_and]
        · simp at h3
          repeat refine zz ?_
          exact ⟨k + 1, ⟨rfl, rfl, trivial⟩, ⟨hk1.keep hk2, by omega, all_step hall (by simp [ascAt, h, h3])⟩, by omega⟩
      · simp at h2
        repeat refine qq ?_
        intro w2 hk2 
        repeat refine zz ?_
        exact ⟨k + 1, ⟨rfl, rfl, trivial⟩, ⟨hk1.keep hk2, by omega, all_step hall (by simp [ascAt, h]; omega)⟩, by omega⟩
  · simp at hc
    obtain rfl : k = n := by omega
    repeat refine zz ?_
    refine ret1 rfl rfl ⟨?_, hk1⟩
    rw [ascL, allB_true (by rwa [← hnx]), Bool.true_and]
    simp [hnx]

theorem ascL_nil : ascL [] = true := rfl
/-- the reference's form of a valid wish -/
theorem isWish_cases (w : Wsh) : isWish w = (inR w.field 0 2 && (
    if w.kind = 0 ∨ w.kind = 1 then decide (w.value = 0) && decide (w.list.length = 0) && decide (w.pairs.length = 0)
    else if w.kind = 2 then inR w.value 0 9 && decide (w.list.length = 0) && decide (w.pairs.length = 0)
    else if w.kind = 3 then decide (w.value = 0) && (ascL w.list && decide (0 < w.list.length)) && decide (w.pairs.length = 0)
    else if w.kind = 4 then decide (w.value = 0) && decide (w.list.length = 0) && arePairs w.pairs
    else false)) := by
  unfold isWish
  have hnil : w.list.length = 0 → ascL w.list = true := fun h => by rw [List.eq_nil_of_length_eq_zero h]; rfl
  have hq : w.value = 0 → inR w.value 0 9 = true := fun h => by rw [h]; rfl
  have hk : ∀ k : Int, w.kind = k → inR w.kind 0 4 = inR k 0 4 := fun k h => by rw [h]
  have hn : w.kind ≠ 0 → w.kind ≠ 1 → w.kind ≠ 2 → w.kind ≠ 3 → w.kind ≠ 4 → inR w.kind 0 4 = false := fun _ _ _ _ _ => by simp [inR]; omega
  generalize inR w.field 0 2 = a
  generalize arePairs w.pairs = ap
  generalize ascL w.list = al at *
  generalize inR w.value 0 9 = q at *
  generalize w.pairs.length = p
  cases a
  · simp
  by_cases h0 : w.kind = 0
  · rw [hk 0 h0]
    by_cases hz : w.value = 0 <;> by_cases hl : w.list.length = 0 <;> simp_all [inR]
  by_cases h1 : w.kind = 1
  · rw [hk 1 h1]
    by_cases hz : w.value = 0 <;> by_cases hl : w.list.length = 0 <;> simp_all [inR]
  by_cases h2 : w.kind = 2
  · rw [hk 2 h2]
    by_cases hl : w.list.length = 0 <;> simp_all [inR]
  by_cases h3 : w.kind = 3
  · rw [hk 3 h3]
    by_cases hz : w.value = 0 <;> by_cases hl : w.list.length = 0 <;> cases al <;> simp_all [inR]
  by_cases h4 : w.kind = 4
  · rw [hk 4 h4]
    by_cases hz : w.value = 0 <;> by_cases hl : w.list.length = 0 <;> simp_all [inR]
  rw [hn h0 h1 h2 h3 h4]
  simp [h0, h1, h2, h3, h4]

set_option maxHeartbeats 1000000 in
theorem spec_IsWish_ok {w : World} {v u : Value} {x : Wsh} {f1 f2 : List Nat} (hl : Sl intR w v x.list f1) (hp : Sl pairR w u x.pairs f2) (hn : x.pairs.length ≤ 1048576) :
    Run Tryz.prog 86 [.agg #[.int .i64 x.kind, .int .i64 x.field, .int .i64 x.value, v, u]] w (fun r w' => r = .bool (isWish x) ∧ Keep w w') := by
  have hcs := isWish_cases x
  refine Run_intro Tryz.func86 (by unfold CallOk; kernel_rfl) rfl Tryz.ntmps86 (Nat.le_of_ble_eq_true rfl) ?_
  simp only [penv, Nat.reduceAdd, Nat.zero_add]
  repeat refine zz ?_
  refine o_boxS rfl rfl rfl ?_
  intro b1 w1 hal1
  have hb1 := hal1.blk
  have hk := hal1.kp
  replace hl := hl.keep hal1.kp
  replace hp := hp.keep hal1.kp
  obtain ⟨A1, n1, c1, rfl, hn1⟩ := hl.split
  obtain ⟨A2, n2, c2, rfl, hn2⟩ := hp.split
  have e1 : decide ((n1 : Int) = 0) = decide (x.list.length = 0) := by rw [decide_eq_decide]; omega
  have e2 : decide ((n2 : Int) = 0) = decide (x.pairs.length = 0) := by rw [decide_eq_decide]; omega
  repeat refine zz ?_
  refine o_call rfl rfl rfl (l1In_ok _ _ _ _) ?_
  rintro _ _ ⟨rfl, rfl⟩
  repeat refine zz ?_
  refine W_cond rfl (fun h => ?_) (fun h => ?_)
  · simp at h
    repeat refine zz ?_
    exact ret1 rfl rfl ⟨by rw [hcs, h, Bool.false_and], hk⟩
  simp at h
  rw [h, Bool.true_and] at hcs
  repeat refine zz ?_
  refine W_cond rfl (fun h0 => ?_) (fun h0 => ?_)
  · simp only [decide_eq_true_eq] at h0
    repeat refine zz ?_
    refine W_cond rfl (fun _ => ?_) (fun hf => absurd h0 (by simpa using hf))
    repeat refine zz ?_
    rw [if_pos (.inl h0)] at hcs
    refine WL_part rfl rfl (fun g1 => ?_) (fun g1 => ?_)
    · repeat refine zz ?_
      refine WL_part rfl rfl (fun g2 => ?_) (fun g2 => ?_)
      · repeat refine zz ?_
        rw [g1, ← e1, g2, ← e2] at hcs
        exact ret1 rfl rfl ⟨by rw [hcs]; rfl, hk⟩
      · repeat refine zz ?_
        rw [g1, ← e1, g2] at hcs
        exact ret1 rfl rfl ⟨by rw [hcs]; rfl, hk⟩
    · repeat refine zz ?_
      rw [g1] at hcs
      exact ret1 rfl rfl ⟨by rw [hcs]; rfl, hk⟩
  · simp only [decide_eq_false_iff_not] at h0
    repeat refine zz ?_
    refine W_cond rfl (fun h1 => ?_) (fun h1 => ?_)
    · simp only [decide_eq_true_eq] at h1
      repeat refine zz ?_
      rw [if_pos (.inr h1)] at hcs
      refine WL_part rfl rfl (fun g1 => ?_) (fun g1 => ?_)
      · repeat refine zz ?_
        refine WL_part rfl rfl (fun g2 => ?_) (fun g2 => ?_)
        · repeat refine zz ?_
          rw [g1, ← e1, g2, ← e2] at hcs
          exact ret1 rfl rfl ⟨by rw [hcs]; rfl, hk⟩
        · repeat refine zz ?_
          rw [g1, ← e1, g2] at hcs
          exact ret1 rfl rfl ⟨by rw [hcs]; rfl, hk⟩
      · repeat refine zz ?_
        rw [g1] at hcs
        exact ret1 rfl rfl ⟨by rw [hcs]; rfl, hk⟩
    · simp only [decide_eq_false_iff_not] at h1
      rw [if_neg (by rintro (h | h); exact h0 h; exact h1 h)] at hcs
      repeat refine zz ?_
      refine W_cond rfl (fun h2 => ?_) (fun h2 => ?_)
      · simp only [decide_eq_true_eq] at h2
        rw [if_pos h2] at hcs
        repeat refine zz ?_
        refine o_call rfl rfl rfl (l1In_ok _ _ _ _) ?_
        rintro _ _ ⟨rfl, rfl⟩
        repeat refine zz ?_
        refine WL_part rfl rfl (fun g1 => ?_) (fun g1 => ?_)
        · repeat refine zz ?_
          refine WL_part rfl rfl (fun g2 => ?_) (fun g2 => ?_)
          · repeat refine zz ?_
            rw [g1, ← e1, g2, ← e2] at hcs
            exact ret1 rfl rfl ⟨by rw [hcs]; rfl, hk⟩
          · repeat refine zz ?_
            rw [g1, ← e1, g2] at hcs
            exact ret1 rfl rfl ⟨by rw [hcs]; rfl, hk⟩
        · repeat refine zz ?_
          rw [g1] at hcs
          exact ret1 rfl rfl ⟨by rw [hcs]; rfl, hk⟩
      · simp only [decide_eq_false_iff_not] at h2
        rw [if_neg h2] at hcs
        repeat refine zz ?_
        refine W_cond rfl (fun h3 => ?_) (fun h3 => ?_)
        · simp only [decide_eq_true_eq] at h3
          rw [if_pos h3] at hcs
          repeat refine zz ?_
          refine WL_part rfl rfl (fun g1 => ?_) (fun g1 => ?_)
          · repeat refine zz ?_
            refine o_call rfl rfl rfl (l4List_ok hl) ?_
            rintro _ w2 ⟨rfl, hk2⟩
            replace hk := hk.keep hk2
            replace hb1 := hb1.keep hk2
            replace hp := hp.keep hk2
            repeat refine zz ?_
            refine WL_part rfl rfl (fun g2 => ?_) (fun g2 => ?_)
            · repeat refine zz ?_
              rw [g1, g2, ← e2] at hcs
              exact ret1 rfl rfl ⟨by rw [hcs]; rfl, hk⟩
            · repeat refine zz ?_
              rw [g1, g2] at hcs
              exact ret1 rfl rfl ⟨by rw [hcs]; rfl, hk⟩
          · repeat refine zz ?_
            rw [g1] at hcs
            exact ret1 rfl rfl ⟨by rw [hcs]; rfl, hk⟩
        · simp only [decide_eq_false_iff_not] at h3
          rw [if_neg h3] at hcs
          repeat refine zz ?_
          refine W_cond rfl (fun h4 => ?_) (fun h4 => ?_)
          · simp only [decide_eq_true_eq] at h4
            rw [if_pos h4] at hcs
            repeat refine zz ?_
            refine WL_part rfl rfl (fun g1 => ?_) (fun g1 => ?_)
            · repeat refine zz ?_
              refine WL_part rfl rfl (fun g2 => ?_) (fun g2 => ?_)
              · repeat refine zz ?_
                refine o_call rfl rfl rfl (spec_ArePairs_ok hp hn) ?_
                rintro _ w2 ⟨rfl, hk2⟩
                replace hk := hk.keep hk2
                repeat refine zz ?_
                rw [g1, ← e1, g2] at hcs
                exact ret1 rfl rfl ⟨by rw [hcs]; rfl, hk⟩
              · repeat refine zz ?_
                rw [g1, ← e1, g2] at hcs
                exact ret1 rfl rfl ⟨by rw [hcs]; rfl, hk⟩
            · repeat refine zz ?_
              rw [g1] at hcs
              exact ret1 rfl rfl ⟨by rw [hcs]; rfl, hk⟩
          · simp only [decide_eq_false_iff_not] at h4
            rw [if_neg h4] at hcs
            repeat refine zz ?_
            exact ret1 rfl rfl ⟨by rw [hcs], hk⟩
end Go.E
set_option linter.unusedVariables false
set_option linter.unusedSimpArgs false
namespace Go.E
open Go Go.RowKit Go.Proofs
theorem Grid.cellN {w : World} {b : Nat} {t : TypeId} {cs : List Value} {f : Nat → Nat → Bool} (h : Grid cs f) (hb : Blk w b t cs) {i j : Nat} (hi : i < 10) (hj : j < 10) : Cell w (ea (ea (some ⟨b, 0, none⟩) 10 (i : Int)) 1 (j : Int)) (.bool (f i j)) := by
  rw [ea2_blk]
  exact hb.cell (h.val i j hi hj)
theorem ea2_int {b : Nat} {i j : Int} : ea (ea (some ⟨b, 0, none⟩) 10 i) 1 j = some ⟨b, i.toNat * 10 + j.toNat, none⟩ := by simp [ea, add_mk]
theorem grid_no : Grid (List.replicate 100 (Value.bool false)) (fun _ _ => false) :=
  ⟨by simp, fun i j hi hj => by rw [List.getElem?_replicate, if_pos (by omega)]⟩
/-- the table in round k at place (i, j): what lies ahead of it has been done -/
def fwG (l : List (Int × Int)) (k i j : Nat) (i' j' : Nat) : Bool := if i' < i ∨ (i' = i ∧ j' < j) then fwB l (k + 1) (i' : Int) (j' : Int) else fwB l k (i' : Int) (j' : Int)
theorem fw_row (l : List (Int × Int)) (k : Nat) (i : Int) : fwB l (k + 1) i (k : Int) = fwB l k i (k : Int) := by
  simp only [fwB]
  cases fwB l k i (k : Int) <;> simp
theorem fw_col (l : List (Int × Int)) (k : Nat) (j : Int) : fwB l (k + 1) (k : Int) j = fwB l k (k : Int) j := by
  simp only [fwB]
  cases fwB l k (k : Int) j <;> simp
theorem fwG_row (l : List (Int × Int)) (k i j i' : Nat) : fwG l k i j i' k = fwB l k (i' : Int) (k : Int) := by
  unfold fwG
  split
  · exact fw_row l k _
  · rfl
theorem fwG_col (l : List (Int × Int)) (k i j j' : Nat) : fwG l k i j k j' = fwB l k (k : Int) (j' : Int) := by
  unfold fwG
  split
  · exact fw_col l k _
  · rfl
theorem fwG_here (l : List (Int × Int)) (k i j : Nat) : fwG l k i j i j = fwB l k (i : Int) (j : Int) := by
  unfold fwG
  rw [if_neg (by omega)]
theorem fwG_step (l : List (Int × Int)) (k i j : Nat) {b : Bool} (hb : fwB l (k + 1) (i : Int) (j : Int) = b) : ∀ i' j', i' < 10 → j' < 10 → fwG l k i (j + 1) i' j' = if i' = i ∧ j' = j then b else fwG l k i j i' j' := by
  intro i' j' _ _
  unfold fwG
  by_cases h : i' = i ∧ j' = j
  · rw [if_pos h, if_pos (by omega), h.1, h.2, hb]
  · rw [if_neg h]
    by_cases h2 : i' < i ∨ (i' = i ∧ j' < j)
    · rw [if_pos h2, if_pos (by omega)]
    · rw [if_neg h2, if_neg (by omega)]
theorem fwG_next (l : List (Int × Int)) (k i : Nat) : ∀ i' j', i' < 10 → j' < 10 → fwG l k (i + 1) 0 i' j' = fwG l k i 10 i' j' := by
  intro i' j' _ _
  unfold fwG
  by_cases h : i' < i ∨ (i' = i ∧ j' < 10)
  · rw [if_pos h, if_pos (by omega)]
  · rw [if_neg h, if_neg (by omega)]
theorem fwG_first (l : List (Int × Int)) (k : Nat) : ∀ i' j', i' < 10 → j' < 10 → fwG l k 0 0 i' j' = fwB l k (i' : Int) (j' : Int) := by
  intro i' j' _ _
  unfold fwG
  rw [if_neg (by omega)]
theorem fwG_last (l : List (Int × Int)) (k : Nat) : ∀ i' j' : Nat, i' < 10 → j' < 10 → fwB l (k + 1) (i' : Int) (j' : Int) = fwG l k 10 0 i' j' := by
  intro i' j' _ _
  unfold fwG
  rw [if_pos (by omega)]
attribute [local irreducible] W WL WD WE thenE inE retQ PureOp Keep Cell Cells Blk Sl Rows Own Src Fresh
attribute [local irreducible] fwB

set_option maxHeartbeats 4000000 in
theorem above_ok {w : World} {v : Value} {l : List (Int × Int)} {fp : List Nat} (hx : Sl pairR w v l fp) (hp : prOk l = true) :
    Run Tryz.prog 107 [v] w (fun r w' => ∃ cs, r = .agg cs.toArray ∧ Grid cs (fun i j => reachB l (i : Int) (j : Int)) ∧ Keep w w') := by
  have hn := hx.le
  obtain ⟨A, n, c, rfl, hnx⟩ := hx.split
  refine Run_intro Tryz.func107 (by unfold CallOk; kernel_rfl) rfl Tryz.ntmps107 (Nat.le_of_ble_eq_true rfl) ?_
  simp only [penv, Nat.reduceAdd, Nat.zero_add]
  repeat refine zz ?_
  refine o_alloc rfl rfl ?_
  intro bZ w1 hal1
  have hbZ := hal1.blk
  have hk := hal1.kp
  have hsZ := hal1.b_eq
  have hzZ := hal1.size
  repeat refine zz ?_
  refine o_alloc rfl rfl ?_
  intro bG w2 hal2
  have hbG := hal2.blk
  have hsG := hal2.b_eq
  replace hbZ := hbZ.keep hal2.kp
  replace hk := hk.keep hal2.kp
  clear hal1 hal2
  repeat refine zz ?_
  refine W_loop (S := Nat × List Value) (fun s => [(2, .pointer (some ⟨bZ, 0, none⟩)), (3, .pointer (some ⟨bG, 0, none⟩)), (9, .slice A n c), (10, .int .i64 n), (11, .int .i64 (s.1 : Int))]) (fun s w' => Keep w w' ∧ s.1 ≤ n ∧ Blk w' bZ _ _ ∧ Blk w' bG _ s.2 ∧ Grid s.2 (fun i j => decide (((i : Int), (j : Int)) ∈ l.take s.1))) (fun s => n - s.1) (0, _) ⟨rfl, rfl, rfl, rfl, rfl, trivial⟩ ⟨hk, Nat.zero_le _, hbZ, hbG, by simpa using grid_no⟩ ?_
  clear hbZ hbG hk
  rintro ⟨k, cs⟩ wa ⟨hk, hkn, hbZ, hbG, hg⟩
  dsimp only at hkn hbG hg ⊢
  have hxa := hx.keep hk
  repeat refine zz ?_
  refine W_cond rfl (fun hc => ?_) (fun hc => ?_)
  · have hkl : k < n := by simp at hc; omega
    obtain ⟨hA, hcell⟩ := pair_get hxa (i := (k : Int)) (by omega) (by omega)
    have hpk := prOk_at hp (i := k) (by omega)
    have hGl := hbG.lt
    repeat refine zz ?_
    refine o_alloc rfl rfl ?_
    intro bR wR halR
    have hbR0 := halR.blk
    repeat refine zz ?_
    refine o_storeS (b := bR) (off := 0) rfl rfl rfl rfl (by repeat (first | exact ones_nil | refine ones_cons (by first | rfl | assumption) ?_)) rfl hbR0 (by simp) ?_
    intro wS huS
    have hbR : Blk wS bR _ [.int .i64 (gi l (k : Int)).1, .int .i64 (gi l (k : Int)).2] := huS.blk
    have hkS := halR.kp.upd huS (Nat.le_of_eq halR.b_eq.symm)
    have hRe := halR.b_eq
    clear hbR0 huS halR
    replace hk := hk.keep hkS
    replace hbZ := hbZ.keep hkS
    replace hbG := hbG.keep hkS
    have hRl : bR ≠ bG := by omega
    have hz := hk.size_le
    repeat refine zz ?_
    refine W_draw (fun w' => Blk w' bR 105 [.int .i64 (gi l (k : Int)).1, .int .i64 (gi l (k : Int)).2]) (by kernel_rfl) ?_
    replace hbR := hbR.keep (Keep.drew wS)
    replace hk := hk.keep (Keep.drew wS)
    replace hbZ := hbZ.keep (Keep.drew wS)
    replace hbG := hbG.keep (Keep.drew wS)
    first|refine d_o 0 ?_|refine d_a 0 ?_|refine d_s 0 ?_|refine d_n 0 ?_|refine d_i 0 ?_|refine d_f 0 ?_|refine d_b 0 ?_|refine d_d 0 ?_|refine d_l1 0 ?_|refine d_l2 0 ?_|refine d_l3 0 ?_|refine d_l4 0 ?_|refine d_l5 0 ?_|refine d_l6 0 ?_|refine d_l7 0 ?_|refine d_l8 0 ?_|refine d_l9 0 ?_|refine d_g 0 ?_|refine d_q 0 ?_|refine d_e 0 ?_|refine d_j 0 ?_
    refine WD_take 1 rfl (by kernel_rfl) (by kernel_rfl) (by kernel_rfl) (by repeat (first | exact np_ret | refine np_then ?_ | refine np_in ?_)) rfl rfl (fun _ hw' => o_load rfl (Blk.fcell hw' (by rfl))) (by assumption) ?_
    first|refine d_o 2 ?_|refine d_a 2 ?_|refine d_s 2 ?_|refine d_n 2 ?_|refine d_i 2 ?_|refine d_f 2 ?_|refine d_b 2 ?_|refine d_d 2 ?_|refine d_l1 2 ?_|refine d_l2 2 ?_|refine d_l3 2 ?_|refine d_l4 2 ?_|refine d_l5 2 ?_|refine d_l6 2 ?_|refine d_l7 2 ?_|refine d_l8 2 ?_|refine d_l9 2 ?_|refine d_g 2 ?_|refine d_q 2 ?_|refine d_e 2 ?_|refine d_j 2 ?_
    refine WD_take 3 rfl (by kernel_rfl) (by kernel_rfl) (by kernel_rfl) (by repeat (first | exact np_ret | refine np_then ?_ | refine np_in ?_)) rfl rfl (fun _ hw' => o_load rfl (Blk.fcell hw' (by rfl))) (by assumption) ?_
    first|refine d_o 4 ?_|refine d_a 4 ?_|refine d_s 4 ?_|refine d_n 4 ?_|refine d_i 4 ?_|refine d_f 4 ?_|refine d_b 4 ?_|refine d_d 4 ?_|refine d_l1 4 ?_|refine d_l2 4 ?_|refine d_l3 4 ?_|refine d_l4 4 ?_|refine d_l5 4 ?_|refine d_l6 4 ?_|refine d_l7 4 ?_|refine d_l8 4 ?_|refine d_l9 4 ?_|refine d_g 4 ?_|refine d_q 4 ?_|refine d_e 4 ?_|refine d_j 4 ?_
    first|refine d_o 5 ?_|refine d_a 5 ?_|refine d_s 5 ?_|refine d_n 5 ?_|refine d_i 5 ?_|refine d_f 5 ?_|refine d_b 5 ?_|refine d_d 5 ?_|refine d_l1 5 ?_|refine d_l2 5 ?_|refine d_l3 5 ?_|refine d_l4 5 ?_|refine d_l5 5 ?_|refine d_l6 5 ?_|refine d_l7 5 ?_|refine d_l8 5 ?_|refine d_l9 5 ?_|refine d_g 5 ?_|refine d_q 5 ?_|refine d_e 5 ?_|refine d_j 5 ?_
    refine WD_one 6 (by kernel_rfl) rfl ?_
    have hl100 := hg.len
    refine o_store1 rfl rfl ea2_int rfl rfl hbG (by omega) ?_
    intro w4 hu4
    have hbG4 := hu4.blk
    have hbR4 := hbR.upd hu4 hRl
    have hbZ4 := hbZ.upd hu4 (by omega)
    have hk4 := hk.upd hu4 (by omega)
    refine WL_end ⟨hbR4, ?_⟩
    refine WD_done (by kernel_rfl) ?_
    repeat refine zz ?_
    refine ⟨(k + 1, _), ⟨rfl, rfl, rfl, rfl, rfl, trivial⟩, ⟨hk4, by dsimp only; omega, hbZ4, hbG4, ?_⟩, by dsimp only; omega⟩
    refine hg.set (b := true) (by omega) (by omega) fun i' j' hi' hj' => ?_
    rw [take_gi (show k < l.length by omega)]
    by_cases he : i' = (gi l (k : Int)).1.toNat ∧ j' = (gi l (k : Int)).2.toNat
    · rw [if_pos he, decide_eq_true_eq]
      refine List.mem_append_right _ (List.mem_singleton.2 ?_)
      have : (gi l (k : Int)) = ((gi l (k : Int)).1, (gi l (k : Int)).2) := rfl
      rw [this, Prod.mk.injEq]; omega
    · rw [if_neg he, decide_eq_decide]
      constructor
      · intro h
        rcases List.mem_append.1 h with h | h
        · exact h
        · have := List.mem_singleton.1 h
          exact absurd (by rw [← this]; simp) he
      · exact List.mem_append_left _
  simp at hc
  obtain rfl : k = n := by omega
  rw [List.take_of_length_le (by omega)] at hg
  replace hg := hg.congr (g := fun i j => fwB l 0 (i : Int) (j : Int)) (fun i j _ _ => by unfold fwB; rfl)
  repeat refine zz ?_
  refine W_loop (S := Nat × List Value) (fun s => [(2, .pointer (some ⟨bZ, 0, none⟩)), (3, .pointer (some ⟨bG, 0, none⟩)), (22, .int .i64 (s.1 : Int))]) (fun s w' => Keep w w' ∧ s.1 ≤ 10 ∧ Blk w' bZ _ _ ∧ Blk w' bG _ s.2 ∧ Grid s.2 (fun i j => fwB l s.1 (i : Int) (j : Int))) (fun s => 10 - s.1) (0, _) ⟨rfl, rfl, rfl, trivial⟩ ⟨hk, Nat.zero_le _, hbZ, hbG, hg⟩ ?_
  clear hbZ hbG hk hg hkn
  rintro ⟨k, cs⟩ wb ⟨hk, hkn, hbZ, hbG, hg⟩
  dsimp only at hkn hbG hg ⊢
  repeat refine zz ?_
  refine W_cond rfl (fun hc => ?_) (fun hc => ?_)
  · have hk9 : k < 10 := by simp at hc; omega
    repeat refine zz ?_
    refine W_loop (S := Nat × List Value) (fun s => [(2, .pointer (some ⟨bZ, 0, none⟩)), (3, .pointer (some ⟨bG, 0, none⟩)), (22, .int .i64 (k : Int)), (6, .int .i64 (k : Int)), (25, .int .i64 (s.1 : Int))]) (fun s w' => Keep w w' ∧ s.1 ≤ 10 ∧ Blk w' bZ _ _ ∧ Blk w' bG _ s.2 ∧ Grid s.2 (fwG l k s.1 0)) (fun s => 10 - s.1) (0, _) ⟨rfl, rfl, rfl, rfl, rfl, trivial⟩ ⟨hk, Nat.zero_le _, hbZ, hbG, hg.congr (fwG_first l k)⟩ ?_
    clear hbZ hbG hk hg
    rintro ⟨i, cs⟩ wc ⟨hk, hi, hbZ, hbG, hg⟩
    dsimp only at hi hbG hg ⊢
    repeat refine zz ?_
    refine W_cond rfl (fun hci => ?_) (fun hci => ?_)
    · have hi9 : i < 10 := by simp at hci; omega
      repeat refine zz ?_
      refine W_loop (S := Nat × List Value) (fun s => [(2, .pointer (some ⟨bZ, 0, none⟩)), (3, .pointer (some ⟨bG, 0, none⟩)), (22, .int .i64 (k : Int)), (6, .int .i64 (k : Int)), (25, .int .i64 (i : Int)), (7, .int .i64 (i : Int)), (28, .int .i64 (s.1 : Int))]) (fun s w' => Keep w w' ∧ s.1 ≤ 10 ∧ Blk w' bZ _ _ ∧ Blk w' bG _ s.2 ∧ Grid s.2 (fwG l k i s.1)) (fun s => 10 - s.1) (0, _) ⟨rfl, rfl, rfl, rfl, rfl, rfl, rfl, trivial⟩ ⟨hk, Nat.zero_le _, hbZ, hbG, hg⟩ ?_
      clear hbZ hbG hk hg
      rintro ⟨j, cs⟩ wd ⟨hk, hj, hbZ, hbG, hg⟩
      dsimp only at hj hbG hg ⊢
      repeat refine zz ?_
      refine W_cond rfl (fun hcj => ?_) (fun hcj => ?_)
      · have hj9 : j < 10 := by simp at hcj; omega
        have hl100 := hg.len
        repeat refine zz ?_
        have e : fwB l (k + 1) (i : Int) (j : Int) = (fwB l k (i : Int) (j : Int) || (fwB l k (i : Int) (k : Int) && fwB l k (k : Int) (j : Int))) := by rw [fwB]
        have kd : Keep wd wd.drew := Keep.drew wd
        have hij := hg.cellN hbG hi9 hj9
        have hik := hg.cellN hbG hi9 hk9
        have hkj := hg.cellN hbG hk9 hj9
        rw [fwG_here] at hij
        rw [fwG_row] at hik
        rw [fwG_col] at hkj
        replace hij := hij.keep kd
        replace hik := hik.keep kd
        replace hkj := hkj.keep kd
        replace hk := hk.keep kd
        replace hbZ := hbZ.keep kd
        replace hbG := hbG.keep kd
        refine W_draw (fun _ => True) (by kernel_rfl) ?_
        have hT : True := trivial
        first|refine d_o 0 ?_|refine d_a 0 ?_|refine d_s 0 ?_|refine d_n 0 ?_|refine d_i 0 ?_|refine d_f 0 ?_|refine d_b 0 ?_|refine d_d 0 ?_|refine d_l1 0 ?_|refine d_l2 0 ?_|refine d_l3 0 ?_|refine d_l4 0 ?_|refine d_l5 0 ?_|refine d_l6 0 ?_|refine d_l7 0 ?_|refine d_l8 0 ?_|refine d_l9 0 ?_|refine d_g 0 ?_|refine d_q 0 ?_|refine d_e 0 ?_|refine d_j 0 ?_
        first|refine d_o 1 ?_|refine d_a 1 ?_|refine d_s 1 ?_|refine d_n 1 ?_|refine d_i 1 ?_|refine d_f 1 ?_|refine d_b 1 ?_|refine d_d 1 ?_|refine d_l1 1 ?_|refine d_l2 1 ?_|refine d_l3 1 ?_|refine d_l4 1 ?_|refine d_l5 1 ?_|refine d_l6 1 ?_|refine d_l7 1 ?_|refine d_l8 1 ?_|refine d_l9 1 ?_|refine d_g 1 ?_|refine d_q 1 ?_|refine d_e 1 ?_|refine d_j 1 ?_
        first|refine d_o 2 ?_|refine d_a 2 ?_|refine d_s 2 ?_|refine d_n 2 ?_|refine d_i 2 ?_|refine d_f 2 ?_|refine d_b 2 ?_|refine d_d 2 ?_|refine d_l1 2 ?_|refine d_l2 2 ?_|refine d_l3 2 ?_|refine d_l4 2 ?_|refine d_l5 2 ?_|refine d_l6 2 ?_|refine d_l7 2 ?_|refine d_l8 2 ?_|refine d_l9 2 ?_|refine d_g 2 ?_|refine d_q 2 ?_|refine d_e 2 ?_|refine d_j 2 ?_
        first|refine d_o 3 ?_|refine d_a 3 ?_|refine d_s 3 ?_|refine d_n 3 ?_|refine d_i 3 ?_|refine d_f 3 ?_|refine d_b 3 ?_|refine d_d 3 ?_|refine d_l1 3 ?_|refine d_l2 3 ?_|refine d_l3 3 ?_|refine d_l4 3 ?_|refine d_l5 3 ?_|refine d_l6 3 ?_|refine d_l7 3 ?_|refine d_l8 3 ?_|refine d_l9 3 ?_|refine d_g 3 ?_|refine d_q 3 ?_|refine d_e 3 ?_|refine d_j 3 ?_
        first|refine d_o 4 ?_|refine d_a 4 ?_|refine d_s 4 ?_|refine d_n 4 ?_|refine d_i 4 ?_|refine d_f 4 ?_|refine d_b 4 ?_|refine d_d 4 ?_|refine d_l1 4 ?_|refine d_l2 4 ?_|refine d_l3 4 ?_|refine d_l4 4 ?_|refine d_l5 4 ?_|refine d_l6 4 ?_|refine d_l7 4 ?_|refine d_l8 4 ?_|refine d_l9 4 ?_|refine d_g 4 ?_|refine d_q 4 ?_|refine d_e 4 ?_|refine d_j 4 ?_
        first|refine d_o 5 ?_|refine d_a 5 ?_|refine d_s 5 ?_|refine d_n 5 ?_|refine d_i 5 ?_|refine d_f 5 ?_|refine d_b 5 ?_|refine d_d 5 ?_|refine d_l1 5 ?_|refine d_l2 5 ?_|refine d_l3 5 ?_|refine d_l4 5 ?_|refine d_l5 5 ?_|refine d_l6 5 ?_|refine d_l7 5 ?_|refine d_l8 5 ?_|refine d_l9 5 ?_|refine d_g 5 ?_|refine d_q 5 ?_|refine d_e 5 ?_|refine d_j 5 ?_
        first|refine d_o 21 ?_|refine d_a 21 ?_|refine d_s 21 ?_|refine d_n 21 ?_|refine d_i 21 ?_|refine d_f 21 ?_|refine d_b 21 ?_|refine d_d 21 ?_|refine d_l1 21 ?_|refine d_l2 21 ?_|refine d_l3 21 ?_|refine d_l4 21 ?_|refine d_l5 21 ?_|refine d_l6 21 ?_|refine d_l7 21 ?_|refine d_l8 21 ?_|refine d_l9 21 ?_|refine d_g 21 ?_|refine d_q 21 ?_|refine d_e 21 ?_|refine d_j 21 ?_
        refine WD_one 6 (by kernel_rfl) rfl ?_
        refine WL_pure rfl rfl (o_load rfl hij) ?_
        refine WL_end ⟨trivial, ?_⟩
        cases h1 : fwB l k (i : Int) (j : Int)
        · rw [h1, Bool.false_or] at e
          first|refine d_o 7 ?_|refine d_a 7 ?_|refine d_s 7 ?_|refine d_n 7 ?_|refine d_i 7 ?_|refine d_f 7 ?_|refine d_b 7 ?_|refine d_d 7 ?_|refine d_l1 7 ?_|refine d_l2 7 ?_|refine d_l3 7 ?_|refine d_l4 7 ?_|refine d_l5 7 ?_|refine d_l6 7 ?_|refine d_l7 7 ?_|refine d_l8 7 ?_|refine d_l9 7 ?_|refine d_g 7 ?_|refine d_q 7 ?_|refine d_e 7 ?_|refine d_j 7 ?_
          first|refine d_o 8 ?_|refine d_a 8 ?_|refine d_s 8 ?_|refine d_n 8 ?_|refine d_i 8 ?_|refine d_f 8 ?_|refine d_b 8 ?_|refine d_d 8 ?_|refine d_l1 8 ?_|refine d_l2 8 ?_|refine d_l3 8 ?_|refine d_l4 8 ?_|refine d_l5 8 ?_|refine d_l6 8 ?_|refine d_l7 8 ?_|refine d_l8 8 ?_|refine d_l9 8 ?_|refine d_g 8 ?_|refine d_q 8 ?_|refine d_e 8 ?_|refine d_j 8 ?_
          first|refine d_o 9 ?_|refine d_a 9 ?_|refine d_s 9 ?_|refine d_n 9 ?_|refine d_i 9 ?_|refine d_f 9 ?_|refine d_b 9 ?_|refine d_d 9 ?_|refine d_l1 9 ?_|refine d_l2 9 ?_|refine d_l3 9 ?_|refine d_l4 9 ?_|refine d_l5 9 ?_|refine d_l6 9 ?_|refine d_l7 9 ?_|refine d_l8 9 ?_|refine d_l9 9 ?_|refine d_g 9 ?_|refine d_q 9 ?_|refine d_e 9 ?_|refine d_j 9 ?_
          first|refine d_o 10 ?_|refine d_a 10 ?_|refine d_s 10 ?_|refine d_n 10 ?_|refine d_i 10 ?_|refine d_f 10 ?_|refine d_b 10 ?_|refine d_d 10 ?_|refine d_l1 10 ?_|refine d_l2 10 ?_|refine d_l3 10 ?_|refine d_l4 10 ?_|refine d_l5 10 ?_|refine d_l6 10 ?_|refine d_l7 10 ?_|refine d_l8 10 ?_|refine d_l9 10 ?_|refine d_g 10 ?_|refine d_q 10 ?_|refine d_e 10 ?_|refine d_j 10 ?_
          first|refine d_o 11 ?_|refine d_a 11 ?_|refine d_s 11 ?_|refine d_n 11 ?_|refine d_i 11 ?_|refine d_f 11 ?_|refine d_b 11 ?_|refine d_d 11 ?_|refine d_l1 11 ?_|refine d_l2 11 ?_|refine d_l3 11 ?_|refine d_l4 11 ?_|refine d_l5 11 ?_|refine d_l6 11 ?_|refine d_l7 11 ?_|refine d_l8 11 ?_|refine d_l9 11 ?_|refine d_g 11 ?_|refine d_q 11 ?_|refine d_e 11 ?_|refine d_j 11 ?_
          refine WD_one 12 (by kernel_rfl) rfl ?_
          refine WL_pure rfl rfl (o_load rfl hik) ?_
          refine WL_end ⟨trivial, ?_⟩
          cases h2 : fwB l k (i : Int) (k : Int)
          · rw [h2, Bool.false_and] at e
            first|refine d_o 13 ?_|refine d_a 13 ?_|refine d_s 13 ?_|refine d_n 13 ?_|refine d_i 13 ?_|refine d_f 13 ?_|refine d_b 13 ?_|refine d_d 13 ?_|refine d_l1 13 ?_|refine d_l2 13 ?_|refine d_l3 13 ?_|refine d_l4 13 ?_|refine d_l5 13 ?_|refine d_l6 13 ?_|refine d_l7 13 ?_|refine d_l8 13 ?_|refine d_l9 13 ?_|refine d_g 13 ?_|refine d_q 13 ?_|refine d_e 13 ?_|refine d_j 13 ?_
            refine WD_pass 14 rfl (by kernel_rfl) (by kernel_rfl) (by kernel_rfl) (by repeat (first | exact np_ret | refine np_then ?_ | refine np_in ?_)) rfl rfl (by assumption) ?_
            refine WD_pass 15 rfl (by kernel_rfl) (by kernel_rfl) (by kernel_rfl) (by repeat (first | exact np_ret | refine np_then ?_ | refine np_in ?_)) rfl rfl (by assumption) ?_
            refine WD_pass 16 rfl (by kernel_rfl) (by kernel_rfl) (by kernel_rfl) (by repeat (first | exact np_ret | refine np_then ?_ | refine np_in ?_)) rfl rfl (by assumption) ?_
            refine WD_pass 17 rfl (by kernel_rfl) (by kernel_rfl) (by kernel_rfl) (by repeat (first | exact np_ret | refine np_then ?_ | refine np_in ?_)) rfl rfl (by assumption) ?_
            refine WD_pass 18 rfl (by kernel_rfl) (by kernel_rfl) (by kernel_rfl) (by repeat (first | exact np_ret | refine np_then ?_ | refine np_in ?_)) rfl rfl (by assumption) ?_
            first|refine d_o 19 ?_|refine d_a 19 ?_|refine d_s 19 ?_|refine d_n 19 ?_|refine d_i 19 ?_|refine d_f 19 ?_|refine d_b 19 ?_|refine d_d 19 ?_|refine d_l1 19 ?_|refine d_l2 19 ?_|refine d_l3 19 ?_|refine d_l4 19 ?_|refine d_l5 19 ?_|refine d_l6 19 ?_|refine d_l7 19 ?_|refine d_l8 19 ?_|refine d_l9 19 ?_|refine d_g 19 ?_|refine d_q 19 ?_|refine d_e 19 ?_|refine d_j 19 ?_
            first|refine d_o 20 ?_|refine d_a 20 ?_|refine d_s 20 ?_|refine d_n 20 ?_|refine d_i 20 ?_|refine d_f 20 ?_|refine d_b 20 ?_|refine d_d 20 ?_|refine d_l1 20 ?_|refine d_l2 20 ?_|refine d_l3 20 ?_|refine d_l4 20 ?_|refine d_l5 20 ?_|refine d_l6 20 ?_|refine d_l7 20 ?_|refine d_l8 20 ?_|refine d_l9 20 ?_|refine d_g 20 ?_|refine d_q 20 ?_|refine d_e 20 ?_|refine d_j 20 ?_
            first|refine d_o 22 ?_|refine d_a 22 ?_|refine d_s 22 ?_|refine d_n 22 ?_|refine d_i 22 ?_|refine d_f 22 ?_|refine d_b 22 ?_|refine d_d 22 ?_|refine d_l1 22 ?_|refine d_l2 22 ?_|refine d_l3 22 ?_|refine d_l4 22 ?_|refine d_l5 22 ?_|refine d_l6 22 ?_|refine d_l7 22 ?_|refine d_l8 22 ?_|refine d_l9 22 ?_|refine d_g 22 ?_|refine d_q 22 ?_|refine d_e 22 ?_|refine d_j 22 ?_
            refine WD_one 23 (by kernel_rfl) rfl ?_
            refine o_store1 rfl rfl ea2_int rfl rfl hbG (by simp only [Int.toNat_natCast]; omega) ?_
            intro w4 hu4
            refine WL_end ⟨trivial, ?_⟩
            refine WD_done (by kernel_rfl) ?_
            repeat refine zz ?_
            refine ⟨(j + 1, _), ⟨rfl, rfl, rfl, rfl, rfl, rfl, rfl, trivial⟩, ⟨hk.upd hu4 (by omega), by dsimp only; omega, hbZ.upd hu4 (by omega), hu4.blk, ?_⟩, by dsimp only; omega⟩
            simp only [Int.toNat_natCast]
            exact hg.set hi9 hj9 (fwG_step l k i j e)
          · rw [h2, Bool.true_and] at e
            first|refine d_o 13 ?_|refine d_a 13 ?_|refine d_s 13 ?_|refine d_n 13 ?_|refine d_i 13 ?_|refine d_f 13 ?_|refine d_b 13 ?_|refine d_d 13 ?_|refine d_l1 13 ?_|refine d_l2 13 ?_|refine d_l3 13 ?_|refine d_l4 13 ?_|refine d_l5 13 ?_|refine d_l6 13 ?_|refine d_l7 13 ?_|refine d_l8 13 ?_|refine d_l9 13 ?_|refine d_g 13 ?_|refine d_q 13 ?_|refine d_e 13 ?_|refine d_j 13 ?_
            first|refine d_o 14 ?_|refine d_a 14 ?_|refine d_s 14 ?_|refine d_n 14 ?_|refine d_i 14 ?_|refine d_f 14 ?_|refine d_b 14 ?_|refine d_d 14 ?_|refine d_l1 14 ?_|refine d_l2 14 ?_|refine d_l3 14 ?_|refine d_l4 14 ?_|refine d_l5 14 ?_|refine d_l6 14 ?_|refine d_l7 14 ?_|refine d_l8 14 ?_|refine d_l9 14 ?_|refine d_g 14 ?_|refine d_q 14 ?_|refine d_e 14 ?_|refine d_j 14 ?_
            first|refine d_o 15 ?_|refine d_a 15 ?_|refine d_s 15 ?_|refine d_n 15 ?_|refine d_i 15 ?_|refine d_f 15 ?_|refine d_b 15 ?_|refine d_d 15 ?_|refine d_l1 15 ?_|refine d_l2 15 ?_|refine d_l3 15 ?_|refine d_l4 15 ?_|refine d_l5 15 ?_|refine d_l6 15 ?_|refine d_l7 15 ?_|refine d_l8 15 ?_|refine d_l9 15 ?_|refine d_g 15 ?_|refine d_q 15 ?_|refine d_e 15 ?_|refine d_j 15 ?_
            first|refine d_o 16 ?_|refine d_a 16 ?_|refine d_s 16 ?_|refine d_n 16 ?_|refine d_i 16 ?_|refine d_f 16 ?_|refine d_b 16 ?_|refine d_d 16 ?_|refine d_l1 16 ?_|refine d_l2 16 ?_|refine d_l3 16 ?_|refine d_l4 16 ?_|refine d_l5 16 ?_|refine d_l6 16 ?_|refine d_l7 16 ?_|refine d_l8 16 ?_|refine d_l9 16 ?_|refine d_g 16 ?_|refine d_q 16 ?_|refine d_e 16 ?_|refine d_j 16 ?_
            first|refine d_o 17 ?_|refine d_a 17 ?_|refine d_s 17 ?_|refine d_n 17 ?_|refine d_i 17 ?_|refine d_f 17 ?_|refine d_b 17 ?_|refine d_d 17 ?_|refine d_l1 17 ?_|refine d_l2 17 ?_|refine d_l3 17 ?_|refine d_l4 17 ?_|refine d_l5 17 ?_|refine d_l6 17 ?_|refine d_l7 17 ?_|refine d_l8 17 ?_|refine d_l9 17 ?_|refine d_g 17 ?_|refine d_q 17 ?_|refine d_e 17 ?_|refine d_j 17 ?_
            refine WD_one 18 (by kernel_rfl) rfl ?_
            refine WL_pure rfl rfl (o_load rfl hkj) ?_
            refine WL_end ⟨trivial, ?_⟩
            first|refine d_o 19 ?_|refine d_a 19 ?_|refine d_s 19 ?_|refine d_n 19 ?_|refine d_i 19 ?_|refine d_f 19 ?_|refine d_b 19 ?_|refine d_d 19 ?_|refine d_l1 19 ?_|refine d_l2 19 ?_|refine d_l3 19 ?_|refine d_l4 19 ?_|refine d_l5 19 ?_|refine d_l6 19 ?_|refine d_l7 19 ?_|refine d_l8 19 ?_|refine d_l9 19 ?_|refine d_g 19 ?_|refine d_q 19 ?_|refine d_e 19 ?_|refine d_j 19 ?_
            first|refine d_o 20 ?_|refine d_a 20 ?_|refine d_s 20 ?_|refine d_n 20 ?_|refine d_i 20 ?_|refine d_f 20 ?_|refine d_b 20 ?_|refine d_d 20 ?_|refine d_l1 20 ?_|refine d_l2 20 ?_|refine d_l3 20 ?_|refine d_l4 20 ?_|refine d_l5 20 ?_|refine d_l6 20 ?_|refine d_l7 20 ?_|refine d_l8 20 ?_|refine d_l9 20 ?_|refine d_g 20 ?_|refine d_q 20 ?_|refine d_e 20 ?_|refine d_j 20 ?_
            first|refine d_o 22 ?_|refine d_a 22 ?_|refine d_s 22 ?_|refine d_n 22 ?_|refine d_i 22 ?_|refine d_f 22 ?_|refine d_b 22 ?_|refine d_d 22 ?_|refine d_l1 22 ?_|refine d_l2 22 ?_|refine d_l3 22 ?_|refine d_l4 22 ?_|refine d_l5 22 ?_|refine d_l6 22 ?_|refine d_l7 22 ?_|refine d_l8 22 ?_|refine d_l9 22 ?_|refine d_g 22 ?_|refine d_q 22 ?_|refine d_e 22 ?_|refine d_j 22 ?_
            refine WD_one 23 (by kernel_rfl) rfl ?_
            refine o_store1 rfl rfl ea2_int rfl rfl hbG (by simp only [Int.toNat_natCast]; omega) ?_
            intro w4 hu4
            refine WL_end ⟨trivial, ?_⟩
            refine WD_done (by kernel_rfl) ?_
            repeat refine zz ?_
            refine ⟨(j + 1, _), ⟨rfl, rfl, rfl, rfl, rfl, rfl, rfl, trivial⟩, ⟨hk.upd hu4 (by omega), by dsimp only; omega, hbZ.upd hu4 (by omega), hu4.blk, ?_⟩, by dsimp only; omega⟩
            simp only [Int.toNat_natCast]
            exact hg.set hi9 hj9 (fwG_step l k i j e)
        · rw [h1, Bool.true_or] at e
          first|refine d_o 7 ?_|refine d_a 7 ?_|refine d_s 7 ?_|refine d_n 7 ?_|refine d_i 7 ?_|refine d_f 7 ?_|refine d_b 7 ?_|refine d_d 7 ?_|refine d_l1 7 ?_|refine d_l2 7 ?_|refine d_l3 7 ?_|refine d_l4 7 ?_|refine d_l5 7 ?_|refine d_l6 7 ?_|refine d_l7 7 ?_|refine d_l8 7 ?_|refine d_l9 7 ?_|refine d_g 7 ?_|refine d_q 7 ?_|refine d_e 7 ?_|refine d_j 7 ?_
          refine WD_pass 8 rfl (by kernel_rfl) (by kernel_rfl) (by kernel_rfl) (by repeat (first | exact np_ret | refine np_then ?_ | refine np_in ?_)) rfl rfl (by assumption) ?_
          refine WD_pass 9 rfl (by kernel_rfl) (by kernel_rfl) (by kernel_rfl) (by repeat (first | exact np_ret | refine np_then ?_ | refine np_in ?_)) rfl rfl (by assumption) ?_
          refine WD_pass 10 rfl (by kernel_rfl) (by kernel_rfl) (by kernel_rfl) (by repeat (first | exact np_ret | refine np_then ?_ | refine np_in ?_)) rfl rfl (by assumption) ?_
          refine WD_pass 11 rfl (by kernel_rfl) (by kernel_rfl) (by kernel_rfl) (by repeat (first | exact np_ret | refine np_then ?_ | refine np_in ?_)) rfl rfl (by assumption) ?_
          refine WD_pass 12 rfl (by kernel_rfl) (by kernel_rfl) (by kernel_rfl) (by repeat (first | exact np_ret | refine np_then ?_ | refine np_in ?_)) rfl rfl (by assumption) ?_
          refine WD_pass 13 rfl (by kernel_rfl) (by kernel_rfl) (by kernel_rfl) (by repeat (first | exact np_ret | refine np_then ?_ | refine np_in ?_)) rfl rfl (by assumption) ?_
          refine WD_pass 14 rfl (by kernel_rfl) (by kernel_rfl) (by kernel_rfl) (by repeat (first | exact np_ret | refine np_then ?_ | refine np_in ?_)) rfl rfl (by assumption) ?_
          refine WD_pass 15 rfl (by kernel_rfl) (by kernel_rfl) (by kernel_rfl) (by repeat (first | exact np_ret | refine np_then ?_ | refine np_in ?_)) rfl rfl (by assumption) ?_
          refine WD_pass 16 rfl (by kernel_rfl) (by kernel_rfl) (by kernel_rfl) (by repeat (first | exact np_ret | refine np_then ?_ | refine np_in ?_)) rfl rfl (by assumption) ?_
          refine WD_pass 17 rfl (by kernel_rfl) (by kernel_rfl) (by kernel_rfl) (by repeat (first | exact np_ret | refine np_then ?_ | refine np_in ?_)) rfl rfl (by assumption) ?_
          refine WD_pass 18 rfl (by kernel_rfl) (by kernel_rfl) (by kernel_rfl) (by repeat (first | exact np_ret | refine np_then ?_ | refine np_in ?_)) rfl rfl (by assumption) ?_
          refine WD_pass 19 rfl (by kernel_rfl) (by kernel_rfl) (by kernel_rfl) (by repeat (first | exact np_ret | refine np_then ?_ | refine np_in ?_)) rfl rfl (by assumption) ?_
          first|refine d_o 20 ?_|refine d_a 20 ?_|refine d_s 20 ?_|refine d_n 20 ?_|refine d_i 20 ?_|refine d_f 20 ?_|refine d_b 20 ?_|refine d_d 20 ?_|refine d_l1 20 ?_|refine d_l2 20 ?_|refine d_l3 20 ?_|refine d_l4 20 ?_|refine d_l5 20 ?_|refine d_l6 20 ?_|refine d_l7 20 ?_|refine d_l8 20 ?_|refine d_l9 20 ?_|refine d_g 20 ?_|refine d_q 20 ?_|refine d_e 20 ?_|refine d_j 20 ?_
          first|refine d_o 22 ?_|refine d_a 22 ?_|refine d_s 22 ?_|refine d_n 22 ?_|refine d_i 22 ?_|refine d_f 22 ?_|refine d_b 22 ?_|refine d_d 22 ?_|refine d_l1 22 ?_|refine d_l2 22 ?_|refine d_l3 22 ?_|refine d_l4 22 ?_|refine d_l5 22 ?_|refine d_l6 22 ?_|refine d_l7 22 ?_|refine d_l8 22 ?_|refine d_l9 22 ?_|refine d_g 22 ?_|refine d_q 22 ?_|refine d_e 22 ?_|refine d_j 22 ?_
          refine WD_one 23 (by kernel_rfl) rfl ?_
          refine o_store1 rfl rfl ea2_int rfl rfl hbG (by simp only [Int.toNat_natCast]; omega) ?_
          intro w4 hu4
          refine WL_end ⟨trivial, ?_⟩
          refine WD_done (by kernel_rfl) ?_
          repeat refine zz ?_
          refine ⟨(j + 1, _), ⟨rfl, rfl, rfl, rfl, rfl, rfl, rfl, trivial⟩, ⟨hk.upd hu4 (by omega), by dsimp only; omega, hbZ.upd hu4 (by omega), hu4.blk, ?_⟩, by dsimp only; omega⟩
          simp only [Int.toNat_natCast]
          exact hg.set hi9 hj9 (fwG_step l k i j e)
      · simp at hcj
        obtain rfl : j = 10 := by omega
        repeat refine zz ?_
        exact ⟨(i + 1, _), ⟨rfl, rfl, rfl, rfl, rfl, trivial⟩, ⟨hk, by dsimp only; omega, hbZ, hbG, hg.congr (fwG_next l k i)⟩, by dsimp only; omega⟩
    · simp at hci
      obtain rfl : i = 10 := by omega
      repeat refine zz ?_
      exact ⟨(k + 1, _), ⟨rfl, rfl, rfl, trivial⟩, ⟨hk, by dsimp only; omega, hbZ, hbG, hg.congr (fwG_last l k)⟩, by dsimp only; omega⟩
  · simp at hc
    obtain rfl : k = 10 := by omega
    have hl100 := hg.len
    repeat refine zz ?_
    refine WL_pure rfl rfl (o_loadS rfl hbG.cells hg.len) ?_
    repeat refine zz ?_
    refine o_storeS (b := bZ) (off := 0) rfl rfl rfl rfl hg.one hg.len hbZ (by simp) ?_
    intro w5 hu5
    have hb5 := hu5.blk
    have e5 : ∀ zs : List Value, zs.length = 100 → zs.take 0 ++ cs ++ zs.drop (0 + 100) = cs := fun zs h => by rw [List.drop_of_length_le (by omega)]; simp
    rw [e5 _ (by simp)] at hb5
    repeat refine zz ?_
    exact retc rfl rfl hb5.cells hg.len ⟨cs, rfl, hg.congr fun i j _ _ => rfl, hk.upd hu5 (by omega)⟩

set_option maxHeartbeats 1000000 in
theorem impl_ArePairs_ok {w : World} {v : Value} {l : List (Int × Int)} {fp : List Nat} (hx : Sl pairR w v l fp) :
    Run Tryz.prog 106 [v] w (fun r w' => r = .bool (arePairs l) ∧ Keep w w') := by
  have hn := hx.le
  obtain ⟨A, n, c, rfl, hnx⟩ := hx.split
  refine Run_intro Tryz.func106 (by unfold CallOk; kernel_rfl) rfl Tryz.ntmps106 (Nat.le_of_ble_eq_true rfl) ?_
  simp only [penv, Nat.reduceAdd, Nat.zero_add]
  repeat refine zz ?_
  refine W_loop (S := Nat) (fun k => [(0, .slice A n c), (7, .slice A n c), (8, .int .i64 n), (9, .int .i64 (k : Int))]) (fun k w' => Keep w w' ∧ k ≤ n ∧ ∀ i, i < k → (fun i : Nat => inR (gi l (i : Int)).1 0 9 && inR (gi l (i : Int)).2 0 9) i = true) (fun k => n - k) 0 ⟨rfl, rfl, rfl, rfl, trivial⟩ ⟨Keep.refl _, Nat.zero_le _, fun i hi => absurd hi (by omega)⟩ ?_
  rintro k w1 ⟨hk1, hk, hall⟩
  have hx1 := hx.keep hk1
  repeat refine zz ?_
  refine W_cond rfl (fun hc => ?_) (fun hc => ?_)
  · have hkn : k < n := by simp at hc; omega
    obtain ⟨hA, hcell⟩ := pair_get hx1 (i := (k : Int)) (by omega) (by omega)
    repeat refine zz ?_
    refine o_alloc rfl rfl ?_
    intro bR wR halR
    have hbR0 := halR.blk
    repeat refine zz ?_
    refine o_storeS (b := bR) (off := 0) rfl rfl rfl rfl (by repeat (first | exact ones_nil | refine ones_cons (by first | rfl | assumption) ?_)) rfl hbR0 (by simp) ?_
    intro wS huS
    have hbR : Blk wS bR _ [.int .i64 (gi l (k : Int)).1, .int .i64 (gi l (k : Int)).2] := huS.blk
    have hkS := halR.kp.upd huS (Nat.le_of_eq halR.b_eq.symm)
    have hRe := halR.b_eq
    clear hbR0 huS halR
    replace hk1 := hk1.keep hkS
    clear hcell
    repeat refine zz ?_
    refine o_call rfl rfl rfl (within_ok _ _ _ _) ?_
    rintro _ _ ⟨rfl, rfl⟩
    repeat refine zz ?_
    refine WL_part rfl rfl (fun h => ?_) (fun h => ?_)
    · simp at h
      repeat refine zz ?_
      exact ret1 rfl rfl ⟨by rw [arePairs, prOk, allB_false (k := k) (by omega) (by simp [h])]; rfl, hk1⟩
    · simp at h
      repeat refine zz ?_
      refine o_call rfl rfl rfl (within_ok _ _ _ _) ?_
      rintro _ _ ⟨rfl, rfl⟩
      repeat refine zz ?_
      refine W_cond rfl (fun h2 => ?_) (fun h2 => ?_)
      · simp at h2
        repeat refine zz ?_
        exact ret1 rfl rfl ⟨by rw [arePairs, prOk, allB_false (k := k) (by omega) (by simp [h2])]; rfl, hk1⟩
      · simp at h2
        repeat refine zz ?_
        exact ⟨k + 1, ⟨rfl, rfl, rfl, rfl, trivial⟩, ⟨hk1, by omega, all_step hall (by simp [h, h2])⟩, by omega⟩
  simp at hc
  obtain rfl : k = n := by omega
  have hp : prOk l = true := by rw [prOk, allB_true (by rwa [← hnx])]
  repeat refine zz ?_
  refine o_call rfl rfl rfl (above_ok hx1 hp) ?_
  rintro _ w2 ⟨cs, rfl, hg, hk2⟩
  replace hk1 := hk1.keep hk2
  have hkz2 := hk1.size_le
  repeat refine zz ?_
  refine o_alloc rfl rfl ?_
  intro bG w3 hal3
  have hb3 := hal3.blk
  have hz3 := hal3.b_eq
  replace hk1 := hk1.keep hal3.kp
  have hs2 := hk2.size_le
  repeat refine zz ?_
  refine o_storeS (b := bG) (off := 0) rfl rfl rfl rfl hg.one hg.len hb3 (by simp) ?_
  intro w4 hu4
  have hb4 := hu4.blk
  have e4 : ∀ zs : List Value, zs.length = 100 → zs.take 0 ++ cs ++ zs.drop (0 + 100) = cs := fun zs h => by rw [List.drop_of_length_le (by omega)]; simp
  rw [e4 _ (by simp)] at hb4
  have hkz := hk1.size_le
  have hs0 : w.heap.size ≤ bG := by omega
  replace hk1 := hk1.upd hu4 hs0
  repeat refine zz ?_
  refine W_loop (S := Nat) (fun k' => [(0, .slice A k c), (5, .pointer (some ⟨bG, 0, none⟩)), (26, .int .i64 (k' : Int))]) (fun k' w' => Keep w4 w' ∧ k' ≤ 10 ∧ ∀ i, i < k' → (fun i : Nat => !reachB l (i : Int) (i : Int)) i = true) (fun k' => 10 - k') 0 ⟨rfl, rfl, rfl, trivial⟩ ⟨Keep.refl _, Nat.zero_le _, fun i hi => absurd hi (by omega)⟩ ?_
  rintro i w5 ⟨hk5, hi, hno⟩
  have hb5 := hb4.keep hk5
  replace hk1 := hk1.keep hk5
  repeat refine zz ?_
  refine W_cond rfl (fun hci => ?_) (fun hci => ?_)
  · have hi9 : i < 10 := by simp at hci; omega
    have hcell := hg.cellN hb5 hi9 hi9
    repeat refine zz ?_
    refine W_cond rfl (fun hd => ?_) (fun hd => ?_)
    · repeat refine zz ?_
      exact ret1 rfl rfl ⟨by rw [arePairs, noLoop, allB_false (f := fun v => !reachB l (v : Int) (v : Int)) (k := i) hi9 (by simp [hd]), Bool.and_false], hk1⟩
    · repeat refine zz ?_
      exact ⟨i + 1, ⟨rfl, rfl, rfl, trivial⟩, ⟨hk5, by omega, all_step hno (by simp [hd])⟩, by omega⟩
  · simp at hci
    obtain rfl : i = 10 := by omega
    repeat refine zz ?_
    refine ret1 rfl rfl ⟨?_, hk1⟩
    rw [arePairs, hp, Bool.true_and, noLoop, allB_true hno, Bool.and_true, ← hnx]
    congr 1
    rw [decide_eq_decide]; omega

set_option maxHeartbeats 1000000 in
theorem impl_IsWish_ok {w : World} {v u : Value} {x : Wsh} {f1 f2 : List Nat} (hl : Sl intR w v x.list f1) (hp : Sl pairR w u x.pairs f2) :
    Run Tryz.prog 91 [.agg #[.int .i64 x.kind, .int .i64 x.field, .int .i64 x.value, v, u]] w (fun r w' => r = .bool (isWish x) ∧ Keep w w') := by
  have hle := hl.le
  refine Run_intro Tryz.func91 (by unfold CallOk; kernel_rfl) rfl Tryz.ntmps91 (Nat.le_of_ble_eq_true rfl) ?_
  simp only [penv, Nat.reduceAdd, Nat.zero_add]
  repeat refine zz ?_
  refine o_boxS rfl rfl rfl ?_
  intro b1 w1 hal1
  have hb1 := hal1.blk
  have hk := hal1.kp
  replace hl := hl.keep hal1.kp
  replace hp := hp.keep hal1.kp
  obtain ⟨A1, n1, c1, rfl, hn1⟩ := hl.split
  obtain ⟨A2, n2, c2, rfl, hn2⟩ := hp.split
  repeat refine zz ?_
  refine o_call rfl rfl rfl (within_ok _ _ _ _) ?_
  rintro _ _ ⟨rfl, rfl⟩
  repeat refine zz ?_
  refine WL_part rfl rfl (fun h1 => ?_) (fun h1 => ?_)
  · simp at h1
    repeat refine zz ?_
    exact ret1 rfl rfl ⟨by rw [isWish, h1]; rfl, hk⟩
  simp at h1
  repeat refine zz ?_
  refine o_call rfl rfl rfl (within_ok _ _ _ _) ?_
  rintro _ _ ⟨rfl, rfl⟩
  repeat refine zz ?_
  refine WL_part rfl rfl (fun h2 => ?_) (fun h2 => ?_)
  · simp at h2
    repeat refine zz ?_
    exact ret1 rfl rfl ⟨by rw [isWish, h1, h2]; rfl, hk⟩
  simp at h2
  repeat refine zz ?_
  refine o_call rfl rfl rfl (within_ok _ _ _ _) ?_
  rintro _ _ ⟨rfl, rfl⟩
  repeat refine zz ?_
  refine W_cond rfl (fun h3 => ?_) (fun h3 => ?_)
  · simp at h3
    repeat refine zz ?_
    exact ret1 rfl rfl ⟨by rw [isWish, h1, h2, h3]; rfl, hk⟩
  simp at h3
  repeat refine zz ?_
  refine W_loop (S := Nat) (fun k => [(1, .pointer (some ⟨b1, 0, none⟩)), (22, .slice A1 n1 c1), (23, .int .i64 n1), (24, .int .i64 (k : Int))]) (fun k w' => w1 = w' ∧ k ≤ n1 ∧ ∀ i, i < k → ascAt 9 x.list i = true) (fun k => n1 - k) 0 ⟨rfl, rfl, rfl, rfl, trivial⟩ ⟨rfl, Nat.zero_le _, fun i hi => absurd hi (by omega)⟩ ?_
  rintro k _ ⟨rfl, hkn, hall⟩
  repeat refine zz ?_
  refine W_cond rfl (fun hc => ?_) (fun hc => ?_)
  · have hkl : k < n1 := by simp at hc; omega
    obtain ⟨hA, hck⟩ := hl.getI (i := (k : Int)) (by omega) (by omega)
    repeat refine zz ?_
    refine o_call rfl rfl rfl (within_ok _ _ _ _) ?_
    rintro _ _ ⟨rfl, rfl⟩
    repeat refine zz ?_
    refine WL_part rfl rfl (fun g1 => ?_) (fun g1 => ?_)
    · simp at g1
      repeat refine zz ?_
      exact ret1 rfl rfl ⟨by rw [isWish, ascL, allB_false (k := k) (by omega) (by simp [ascAt, g1]), h1, h2, h3]; rfl, hk⟩
    simp at g1
    repeat refine zz ?_
    refine WL_part rfl rfl (fun g2 => ?_) (fun g2 => ?_)
    · simp at g2
      obtain ⟨hA', hck'⟩ := hl.getI (i := (k : Int) - 1) (by omega) (by omega)
      repeat refine zz ?_
      refine W_cond rfl (fun g3 => ?_) (fun g3 => ?_)
      · simp at g3
        repeat refine zz ?_
        exact ret1 rfl rfl ⟨by rw [isWish, ascL, allB_false (k := k) (by omega) (by simp [ascAt, g1, g3]; omega), h1, h2, h3]; rfl, hk⟩
      · simp at g3
        repeat refine zz ?_
        exact ⟨k + 1, ⟨rfl, rfl, rfl, rfl, trivial⟩, ⟨rfl, by omega, all_step hall (by simp [ascAt, g1, g3])⟩, by omega⟩
    · simp at g2
      repeat refine zz ?_
      exact ⟨k + 1, ⟨rfl, rfl, rfl, rfl, trivial⟩, ⟨rfl, by omega, all_step hall (by simp [ascAt, g1]; omega)⟩, by omega⟩
  simp at hc
  obtain rfl : k = n1 := by omega
  have hasc : ascL x.list = true := by rw [ascL, allB_true (by rwa [← hn1])]
  have hw0 : isWish x = ((decide (x.kind = 2) || decide (x.value = 0)) && (decide (x.kind = 3) == decide (0 < x.list.length)) && (if x.kind = 4 then arePairs x.pairs else decide (x.pairs.length = 0))) := by
    rw [isWish, h1, h2, h3, hasc]; simp
  have e2 : decide ((n2 : Int) = 0) = decide (x.pairs.length = 0) := by rw [decide_eq_decide]; omega
  have el : decide ((0 : Int) < (k : Int)) = decide (0 < x.list.length) := by rw [decide_eq_decide]; omega
  clear hc hall
  repeat refine zz ?_
  refine WL_part rfl rfl (fun q1 => ?_) (fun q1 => ?_)
  · simp only [decide_eq_true_eq] at q1
    repeat refine zz ?_
    refine WL_part rfl rfl (fun q2 => ?_) (fun q2 => ?_)
    · simp only [decide_eq_true_eq] at q2
      repeat refine zz ?_
      exact ret1 rfl rfl ⟨by rw [hw0]; simp [q1, q2], hk⟩
    · simp at q2
      repeat refine zz ?_
      refine W_cond rfl (fun q3 => ?_) (fun q3 => ?_)
      · simp only [Bool.not_eq_true'] at q3
        repeat refine zz ?_
        exact ret1 rfl rfl ⟨by rw [hw0, ← el, q3, Bool.and_false, Bool.false_and], hk⟩
      · simp only [Bool.not_eq_false'] at q3
        repeat refine zz ?_
        refine W_cond rfl (fun q4 => ?_) (fun q4 => ?_)
        · simp at q4
          repeat refine zz ?_
          refine o_call rfl rfl rfl (impl_ArePairs_ok hp) ?_
          rintro _ w3 ⟨rfl, hk3⟩
          repeat refine zz ?_
          exact ret1 rfl rfl ⟨by rw [hw0, ← el, q3, if_pos q4]; simp [q2], hk.keep hk3⟩
        · simp at q4
          repeat refine zz ?_
          exact ret1 rfl rfl ⟨by rw [hw0, ← el, q3, if_neg q4, e2]; simp [q2], hk⟩
  · simp at q1
    repeat refine zz ?_
    refine W_cond rfl (fun q3 => ?_) (fun q3 => ?_)
    · simp only [Bool.not_eq_true'] at q3
      repeat refine zz ?_
      exact ret1 rfl rfl ⟨by rw [hw0, ← el, q3, Bool.and_false, Bool.false_and], hk⟩
    · simp only [Bool.not_eq_false'] at q3
      repeat refine zz ?_
      refine W_cond rfl (fun q4 => ?_) (fun q4 => ?_)
      · simp at q4
        repeat refine zz ?_
        refine o_call rfl rfl rfl (impl_ArePairs_ok hp) ?_
        rintro _ w3 ⟨rfl, hk3⟩
        repeat refine zz ?_
        exact ret1 rfl rfl ⟨by rw [hw0, ← el, q3, if_pos q4]; simp [q1], hk.keep hk3⟩
      · simp at q4
        repeat refine zz ?_
        exact ret1 rfl rfl ⟨by rw [hw0, ← el, q3, if_neg q4, e2]; simp [q1], hk⟩
end Go.E
set_option linter.unusedVariables false
set_option linter.unusedSimpArgs false
namespace Go.E
open Go Go.RowKit Go.Proofs
/-- a struct of two numbers -/
class PairT (P : Program) (t : TypeId) : Prop where
  u : (match P.underlying t with
    | some (.struct fs) => (match fs.toList with
      | [f0, f1] => decide (f0.name ≠ "_") && decide (f1.name ≠ "_") && decide (f0.offset = 0) && decide (f1.offset = 1) && (match P.underlying f0.type with | some (.int _) => true | _ => false) && (match P.underlying f1.type with | some (.int _) => true | _ => false)
      | _ => false)
    | _ => false) && !P.stoodInHeld t = true
  g : P.eqGuardType P.depth t = false
theorem run_equalIn_int {P : Program} {t : TypeId} {k : IntKind} (ht : P.underlying t = some (.int k)) (w : World) (d : Nat) (k' : IntKind) (a b : Int) : (Op.equalIn (d + 1) t (.int k' a) (.int k' b)).run P w = .ok (a == b) w := by
  simp [Op.equalIn, underlying, run_program, ht]
theorem run_equalIn_pair {P : Program} {t : TypeId} (ht : PairT P t) (w : World) (d : Nat) (a b c e : Int) : (Op.equalIn (d + 2) t (.agg #[.int .i64 a, .int .i64 b]) (.agg #[.int .i64 c, .int .i64 e])).run P w = .ok (decide ((a, b) = (c, e))) w := by
  have h := ht.u
  cases hu : P.underlying t with
  | none => simp [hu] at h
  | some ds =>
    cases ds with
    | struct fs =>
      simp only [hu] at h
      cases hfs : fs.toList with
      | nil => simp [hfs] at h
      | cons f0 r =>
        cases r with
        | nil => simp [hfs] at h
        | cons f1 r =>
          cases r with
          | cons f2 r => simp [hfs] at h
          | nil =>
            simp only [hfs, Bool.and_eq_true, decide_eq_true_eq, Bool.not_eq_true'] at h
            obtain ⟨⟨⟨⟨⟨⟨h1, h2⟩, h3⟩, h4⟩, h5⟩, h6⟩, h7⟩ := h
            have hfe : fs = #[f0, f1] := by
              have : fs = fs.toList.toArray := by simp
              rw [this, hfs]
            cases hu0 : P.underlying f0.type with
            | none => simp [hu0] at h5
            | some d0 =>
              cases d0 with
              | int k0 =>
                cases hu1 : P.underlying f1.type with
                | none => simp [hu1] at h6
                | some d1 =>
                  cases d1 with
                  | int k1 =>
                    have p0 : ∀ (x y : Value) (w : World), (part f0.type #[x, y] f0.offset).run P w = .ok x w := fun x y w => by
                      simp [part, isAgg, underlying, run_program, hu0, h3]
                    have p1 : ∀ (x y : Value) (w : World), (part f1.type #[x, y] f1.offset).run P w = .ok y w := fun x y w => by
                      simp [part, isAgg, underlying, run_program, hu1, h4]
                    subst hfe
                    have e0 := fun w => run_equalIn_int (P := P) hu0 w d .i64 a c
                    have e1 := fun w => run_equalIn_int (P := P) hu1 w d .i64 b e
                    rw [Op.equalIn]
                    simp [underlying, run_program, hu, h7, h1, h2, p0, p1, e0, e1]
                    by_cases hac : a = c <;> by_cases hbe : b = e <;> simp_all
                  | _ => simp [hu1] at h6
              | _ => simp [hu0] at h5
    | _ => simp [hu] at h
instance : PairT Tryz.prog 105 := ⟨by kernel_rfl, by kernel_rfl⟩
theorem o_neqP {P : Program} {N : Nat} {e : Env} {w : World} {dst : Option Tmp} {ty t t' : TypeId} {pos : String} {af : Array Edge} {g : Option (Nat × Bool)} {x y : Operand} [ht : PairT P t] {a b c d : Int}
    (hx : ev e x = some (.agg #[.int .i64 a, .int .i64 b])) (hy : ev e y = some (.agg #[.int .i64 c, .int .i64 d])) : PureOp P N e w ⟨dst, .binOp .neq t x y t', ty, pos, af, g⟩ (.bool (!decide ((a, b) = (c, d)))) :=
  fun ac ha => by
    have := run_equalIn_pair (P := P) ht w 9998 a b c d
    simp only [execOp, ha.ev hx, ha.ev hy, eqGuard, binOp]
    simp [Op.equal, Op.maxDepth, ht.g] at this ⊢
    simp [this]
theorem exD_le (e : List Nod) (n : Nat) : exD e n ≤ n := by
  induction n with
  | zero => simp [exD]
  | succ n ih =>
    have : 0 ≤ opnds (gi e (n : Int)).op := by unfold opnds; split <;> (try split) <;> omega
    simp only [exD]; omega
theorem exBad {e : List Nod} {k : Nat} (hk : k < e.length) (h : exOk e k = false) : isExpr e = false := by
  rw [isExpr, allB_false hk h, Bool.false_and, Bool.false_and]
def wish0 : Wsh := ⟨0, 0, 0, [], []⟩
theorem noWish_iff (w : Wsh) : decide (w = wish0) = noWish w := by
  rw [Bool.eq_iff_iff]
  obtain ⟨a, b, c, l, p⟩ := w
  simp only [noWish, wish0, Wsh.mk.injEq, decide_eq_true_eq, Bool.and_eq_true, List.length_eq_zero_iff]
  constructor
  · rintro ⟨h1, h2, h3, h4, h5⟩; exact ⟨⟨⟨⟨h1, h2⟩, h3⟩, h4⟩, h5⟩
  · rintro ⟨⟨⟨⟨h1, h2⟩, h3⟩, h4⟩, h5⟩; exact ⟨h1, h2, h3, h4, h5⟩
attribute [local irreducible] W WL WD WE thenE inE retQ PureOp Keep Cell Cells Blk Sl Rows Own Src Fresh
attribute [local irreducible] arePairs

theorem l5NoWish_ok {w : World} {v u : Value} {x : Wsh} {f1 f2 : List Nat} (hl : Sl intR w v x.list f1) (hp : Sl pairR w u x.pairs f2) :
    Run Tryz.prog 87 [.agg #[.int .i64 x.kind, .int .i64 x.field, .int .i64 x.value, v, u]] w (fun r w' => r = .bool (noWish x) ∧ Keep w w') := by
  refine Run_intro Tryz.func87 (by unfold CallOk; kernel_rfl) rfl Tryz.ntmps87 (Nat.le_of_ble_eq_true rfl) ?_
  simp only [penv, Nat.reduceAdd, Nat.zero_add]
  repeat refine zz ?_
  refine o_boxS rfl rfl rfl ?_
  intro b1 w1 hal1
  have hb1 := hal1.blk
  have hk := hal1.kp
  replace hl := hl.keep hal1.kp
  replace hp := hp.keep hal1.kp
  obtain ⟨A1, n1, c1, rfl, hn1⟩ := hl.split
  obtain ⟨A2, n2, c2, rfl, hn2⟩ := hp.split
  have e1 : decide ((n1 : Int) = 0) = decide (x.list.length = 0) := by rw [decide_eq_decide]; omega
  have e2 : decide ((n2 : Int) = 0) = decide (x.pairs.length = 0) := by rw [decide_eq_decide]; omega
  repeat refine zz ?_
  refine WL_part rfl rfl (fun g1 => ?_) (fun g1 => ?_)
  · repeat refine zz ?_
    refine WL_part rfl rfl (fun g2 => ?_) (fun g2 => ?_)
    · repeat refine zz ?_
      refine WL_part rfl rfl (fun g3 => ?_) (fun g3 => ?_)
      · repeat refine zz ?_
        refine WL_part rfl rfl (fun g4 => ?_) (fun g4 => ?_)
        · repeat refine zz ?_
          exact ret1 rfl rfl ⟨by rw [noWish, g1, g2, g3, ← e1, g4, ← e2]; rfl, hk⟩
        · repeat refine zz ?_
          exact ret1 rfl rfl ⟨by rw [noWish, g1, g2, g3, ← e1, g4]; rfl, hk⟩
      · repeat refine zz ?_
        exact ret1 rfl rfl ⟨by rw [noWish, g1, g2, g3]; rfl, hk⟩
    · repeat refine zz ?_
      exact ret1 rfl rfl ⟨by rw [noWish, g1, g2]; rfl, hk⟩
  · repeat refine zz ?_
    exact ret1 rfl rfl ⟨by rw [noWish, g1]; rfl, hk⟩

set_option maxHeartbeats 2000000 in
theorem spec_IsExpression_ok {w : World} {v : Value} {e : List Nod} {fp : List Nat} (hx : Sl nodeR w v e fp) (hn : e.length + totN e ≤ 1048576) :
    Run Tryz.prog 63 [v] w (fun r w' => r = .bool (isExpr e) ∧ Keep w w') := by
  obtain ⟨A, n, c, rfl, hnx⟩ := hx.split
  refine Run_intro Tryz.func63 (by unfold CallOk; kernel_rfl) rfl Tryz.ntmps63 (Nat.le_of_ble_eq_true rfl) ?_
  simp only [penv, Nat.reduceAdd, Nat.zero_add]
  repeat refine zz ?_
  refine W_loop (S := Nat) (fun k => [(0, .slice A n c), (3, .int .i64 (exD e k)), (4, .int .i64 (k : Int))]) (fun k w' => Keep w w' ∧ k ≤ n ∧ ∀ i, i < k → exOk e i = true) (fun k => n - k) 0 ⟨rfl, find_int rfl rfl, rfl, trivial⟩ ⟨Keep.refl _, Nat.zero_le _, fun i hi => absurd hi (by omega)⟩ ?_
  rintro k w1 ⟨hk1, hk, hall⟩
  have hx1 := hx.keep hk1
  have hd0 := exD_nat hall
  have hd1 := exD_le e k
  repeat refine zz ?_
  refine W_cond rfl (fun hc => ?_) (fun hc => ?_)
  · have hkn : k < n := by simp at hc; omega
    obtain ⟨hA, v1, u1, f1, f2, hcell, hv, hu, _⟩ := node_get hx1 (i := (k : Int)) (by omega) (by omega)
    have hbad := exBad (e := e) (k := k) (by omega)
    have htw := totN_each (L := e) (k := k) (by omega)
    have hex : exOk e k = (inR (gi e (k : Int)).op 0 4 && decide (opnds (gi e (k : Int)).op ≤ exD e k) && (if (gi e (k : Int)).op = 0 then isWish (gi e (k : Int)).wish else noWish (gi e (k : Int)).wish)) := rfl
    have hes : exD e (k + 1) = exD e k - opnds (gi e (k : Int)).op + 1 := rfl
    generalize gi e (k : Int) = nd at *
    have hpl : nd.wish.pairs.length ≤ 1048576 := by simp only [totW] at htw; omega
    have hir : ∀ op : Int, nd.op = op → inR nd.op 0 4 = inR op 0 4 := fun op h => by rw [h]
    have hop : ∀ op : Int, nd.op = op → opnds nd.op = opnds op := fun op h => by rw [h]
    repeat refine zz ?_
    refine W_cond rfl (fun h0 => ?_) (fun h0 => ?_)
    · simp only [decide_eq_true_eq] at h0
      rw [hir 0 h0, hop 0 h0, if_pos h0] at hex
      rw [hop 0 h0] at hes
      have o0 : opnds 0 = 0 := rfl
      repeat refine zz ?_
      refine o_call rfl rfl rfl (spec_IsWish_ok hv hu hpl) ?_
      rintro _ w2 ⟨rfl, hk2⟩
      replace hk1 := hk1.keep hk2
      repeat refine zz ?_
      refine W_cond rfl (fun h4 => ?_) (fun h4 => ?_)
      · simp at h4
        repeat refine zz ?_
        exact ret1 rfl rfl ⟨by rw [hbad (by rw [hex, h4, Bool.and_false])], hk1⟩
      · simp at h4
        have hok : exOk e k = true := by rw [hex, h4, decide_eq_true (by omega)]; rfl
        repeat refine zz ?_
        exact ⟨k + 1, ⟨rfl, find_int rfl (by rw [hes]; omega), rfl, trivial⟩, ⟨hk1, by omega, all_step hall hok⟩, by omega⟩
    simp only [decide_eq_false_iff_not] at h0
    rw [if_neg h0] at hex
    repeat refine zz ?_
    refine W_cond rfl (fun h3 => ?_) (fun h3 => ?_)
    · simp only [decide_eq_true_eq] at h3
      rw [hir 3 h3, hop 3 h3] at hex
      rw [hop 3 h3] at hes
      have o3 : opnds 3 = 1 := rfl
      repeat refine zz ?_
      refine WL_part rfl rfl (fun h4 => ?_) (fun h4 => ?_)
      · simp at h4
        repeat refine zz ?_
        exact ret1 rfl rfl ⟨by rw [hbad (by rw [hex, decide_eq_false (by omega)]; rfl)], hk1⟩
      simp at h4
      repeat refine zz ?_
      refine o_call rfl rfl rfl (l5NoWish_ok hv hu) ?_
      rintro _ w2 ⟨rfl, hk2⟩
      replace hk1 := hk1.keep hk2
      repeat refine zz ?_
      refine W_cond rfl (fun h5 => ?_) (fun h5 => ?_)
      · simp at h5
        repeat refine zz ?_
        exact ret1 rfl rfl ⟨by rw [hbad (by rw [hex, h5, Bool.and_false])], hk1⟩
      · simp at h5
        have hok : exOk e k = true := by rw [hex, h5, decide_eq_true (by omega)]; rfl
        repeat refine zz ?_
        exact ⟨k + 1, ⟨rfl, find_int rfl (by rw [hes]; omega), rfl, trivial⟩, ⟨hk1, by omega, all_step hall hok⟩, by omega⟩
    simp only [decide_eq_false_iff_not] at h3
    have o2 : opnds nd.op = 2 := by unfold opnds; rw [if_neg h0, if_neg h3]
    rw [o2] at hex hes
    repeat refine zz ?_
    refine W_cond rfl (fun h1 => ?_) (fun h1 => ?_)
    · simp only [decide_eq_true_eq] at h1
      rw [hir 1 h1] at hex
      repeat refine zz ?_
      refine W_cond rfl (fun _ => ?_) (fun hf => absurd h1 (by simpa using hf))
      repeat refine zz ?_
      refine WL_part rfl rfl (fun g4 => ?_) (fun g4 => ?_)
      · simp at g4
        repeat refine zz ?_
        exact ret1 rfl rfl ⟨by rw [hbad (by rw [hex, decide_eq_false (by omega)]; rfl)], hk1⟩
      simp at g4
      repeat refine zz ?_
      refine o_call rfl rfl rfl (l5NoWish_ok hv hu) ?_
      rintro _ w2 ⟨rfl, hk2⟩
      replace hk1 := hk1.keep hk2
      repeat refine zz ?_
      refine W_cond rfl (fun g5 => ?_) (fun g5 => ?_)
      · simp at g5
        repeat refine zz ?_
        exact ret1 rfl rfl ⟨by rw [hbad (by rw [hex, g5, Bool.and_false])], hk1⟩
      · simp at g5
        have hok : exOk e k = true := by rw [hex, g5, decide_eq_true (by omega)]; rfl
        repeat refine zz ?_
        exact ⟨k + 1, ⟨rfl, find_int rfl (by rw [hes]; omega), rfl, trivial⟩, ⟨hk1, by omega, all_step hall hok⟩, by omega⟩
    simp only [decide_eq_false_iff_not] at h1
    repeat refine zz ?_
    refine W_cond rfl (fun h2 => ?_) (fun h2 => ?_)
    · simp only [decide_eq_true_eq] at h2
      rw [hir 2 h2] at hex
      repeat refine zz ?_
      refine W_cond rfl (fun _ => ?_) (fun hf => absurd h2 (by simpa using hf))
      repeat refine zz ?_
      refine WL_part rfl rfl (fun g4 => ?_) (fun g4 => ?_)
      · simp at g4
        repeat refine zz ?_
        exact ret1 rfl rfl ⟨by rw [hbad (by rw [hex, decide_eq_false (by omega)]; rfl)], hk1⟩
      simp at g4
      repeat refine zz ?_
      refine o_call rfl rfl rfl (l5NoWish_ok hv hu) ?_
      rintro _ w2 ⟨rfl, hk2⟩
      replace hk1 := hk1.keep hk2
      repeat refine zz ?_
      refine W_cond rfl (fun g5 => ?_) (fun g5 => ?_)
      · simp at g5
        repeat refine zz ?_
        exact ret1 rfl rfl ⟨by rw [hbad (by rw [hex, g5, Bool.and_false])], hk1⟩
      · simp at g5
        have hok : exOk e k = true := by rw [hex, g5, decide_eq_true (by omega)]; rfl
        repeat refine zz ?_
        exact ⟨k + 1, ⟨rfl, find_int rfl (by rw [hes]; omega), rfl, trivial⟩, ⟨hk1, by omega, all_step hall hok⟩, by omega⟩
    simp only [decide_eq_false_iff_not] at h2
    repeat refine zz ?_
    refine W_cond rfl (fun h4 => ?_) (fun h4 => ?_)
    · simp only [decide_eq_true_eq] at h4
      rw [hir 4 h4] at hex
      repeat refine zz ?_
      refine WL_part rfl rfl (fun g4 => ?_) (fun g4 => ?_)
      · simp at g4
        repeat refine zz ?_
        exact ret1 rfl rfl ⟨by rw [hbad (by rw [hex, decide_eq_false (by omega)]; rfl)], hk1⟩
      simp at g4
      repeat refine zz ?_
      refine o_call rfl rfl rfl (l5NoWish_ok hv hu) ?_
      rintro _ w2 ⟨rfl, hk2⟩
      replace hk1 := hk1.keep hk2
      repeat refine zz ?_
      refine W_cond rfl (fun g5 => ?_) (fun g5 => ?_)
      · simp at g5
        repeat refine zz ?_
        exact ret1 rfl rfl ⟨by rw [hbad (by rw [hex, g5, Bool.and_false])], hk1⟩
      · simp at g5
        have hok : exOk e k = true := by rw [hex, g5, decide_eq_true (by omega)]; rfl
        repeat refine zz ?_
        exact ⟨k + 1, ⟨rfl, find_int rfl (by rw [hes]; omega), rfl, trivial⟩, ⟨hk1, by omega, all_step hall hok⟩, by omega⟩
    simp only [decide_eq_false_iff_not] at h4
    repeat refine zz ?_
    exact ret1 rfl rfl ⟨by rw [hbad (by rw [hex, show inR nd.op 0 4 = false by simp [inR]; omega]; rfl)], hk1⟩
  simp at hc
  obtain rfl : k = n := by omega
  have hx0 : isExpr e = (decide (exD e k = 1) && decide ((k : Int) ≤ 9)) := by
    rw [isExpr, allB_true (by rwa [← hnx]), Bool.true_and, hnx]
    congr 1
    rw [decide_eq_decide]; omega
  repeat refine zz ?_
  refine WL_part rfl rfl (fun h => ?_) (fun h => ?_)
  · repeat refine zz ?_
    exact ret1 rfl rfl ⟨by rw [hx0, h]; rfl, hk1⟩
  · repeat refine zz ?_
    exact ret1 rfl rfl ⟨by rw [hx0, h]; rfl, hk1⟩
end Go.E
set_option linter.unusedVariables false
set_option linter.unusedSimpArgs false
namespace Go.E
open Go Go.RowKit Go.Proofs
def isCmp (a : Int) : Prop := a = -1 ∨ a = 0 ∨ a = 1 ∨ a = 2
theorem cmp_mul {a b : Int} (ha : isCmp a) (hb : isCmp b) : -9223372036854775808 ≤ a * b ∧ a * b ≤ 9223372036854775807 := by
  rcases ha with rfl | rfl | rfl | rfl <;> rcases hb with rfl | rfl | rfl | rfl <;> omega
attribute [local irreducible] W WL WD WE thenE inE retQ PureOp Keep Cell Cells Blk Sl Rows Own Src Fresh
attribute [local irreducible] arePairs reachB

theorem l4Rank_ok {w : World} {v u : Value} {x : Wsh} {f1 f2 : List Nat} {a : Int} (hl : Sl intR w v x.list f1) (hp : Sl pairR w u x.pairs f2) (hv : 0 ≤ x.value ∧ x.value ≤ 9) (ha : 0 ≤ a ∧ a ≤ 9) :
    Run Tryz.prog 94 [.agg #[.int .i64 x.kind, .int .i64 x.field, .int .i64 x.value, v, u], .int .i64 a] w (fun r w' => r = .int .i64 (rankV x a) ∧ Keep w w') := by
  refine Run_intro Tryz.func94 (by unfold CallOk; kernel_rfl) rfl Tryz.ntmps94 (Nat.le_of_ble_eq_true rfl) ?_
  simp only [penv, Nat.reduceAdd, Nat.zero_add]
  repeat refine zz ?_
  refine o_boxS rfl rfl rfl ?_
  intro b1 w1 hal1
  have hb1 := hal1.blk
  have hk := hal1.kp
  replace hl := hl.keep hal1.kp
  replace hp := hp.keep hal1.kp
  repeat refine zz ?_
  refine W_cond rfl (fun h0 => ?_) (fun h0 => ?_)
  · simp only [decide_eq_true_eq] at h0
    repeat refine zz ?_
    exact ret1 rfl rfl ⟨by rw [rankV, if_pos h0], hk⟩
  simp only [decide_eq_false_iff_not] at h0
  repeat refine zz ?_
  refine W_cond rfl (fun h1 => ?_) (fun h1 => ?_)
  · simp only [decide_eq_true_eq] at h1
    repeat refine zz ?_
    exact ret1 rfl rfl ⟨by rw [rankV, if_neg h0, if_pos h1], hk⟩
  simp only [decide_eq_false_iff_not] at h1
  repeat refine zz ?_
  refine W_cond rfl (fun h2 => ?_) (fun h2 => ?_)
  · simp only [decide_eq_true_eq] at h2
    repeat refine zz ?_
    refine WL_pure rfl rfl (o_max rfl rfl) ?_
    repeat refine zz ?_
    exact ret1 rfl rfl ⟨by rw [rankV, if_neg h0, if_neg h1, if_pos h2], hk⟩
  simp only [decide_eq_false_iff_not] at h2
  repeat refine zz ?_
  refine o_call rfl rfl rfl (l2Has_ok hl) ?_
  rintro _ _ ⟨rfl, rfl⟩
  repeat refine zz ?_
  refine W_cond rfl (fun h3 => ?_) (fun h3 => ?_)
  · repeat refine zz ?_
    exact ret1 rfl rfl ⟨by rw [rankV, if_neg h0, if_neg h1, if_neg h2, if_pos h3], hk⟩
  · repeat refine zz ?_
    exact ret1 rfl rfl ⟨by rw [rankV, if_neg h0, if_neg h1, if_neg h2, h3]; rfl, hk⟩

set_option maxHeartbeats 1000000 in
theorem l4Compare_ok {w : World} {v u : Value} {x : Wsh} {f1 f2 : List Nat} {a b : Int} (hl : Sl intR w v x.list f1) (hp : Sl pairR w u x.pairs f2) (hw : isWish x = true) (ha : 0 ≤ a ∧ a ≤ 9) (hb : 0 ≤ b ∧ b ≤ 9) :
    Run Tryz.prog 73 [.agg #[.int .i64 x.kind, .int .i64 x.field, .int .i64 x.value, v, u], .int .i64 a, .int .i64 b] w (fun r w' => r = .int .i64 (cmpV x a b) ∧ Keep w w') := by
  have hok := isWish_ok hw
  refine Run_intro Tryz.func73 (by unfold CallOk; kernel_rfl) rfl Tryz.ntmps73 (Nat.le_of_ble_eq_true rfl) ?_
  simp only [penv, Nat.reduceAdd, Nat.zero_add]
  repeat refine zz ?_
  refine o_boxS rfl rfl rfl ?_
  intro b1 w1 hal1
  have hb1 := hal1.blk
  have hk := hal1.kp
  replace hl := hl.keep hal1.kp
  replace hp := hp.keep hal1.kp
  repeat refine zz ?_
  refine W_cond rfl (fun h4 => ?_) (fun h4 => ?_)
  · simp only [decide_eq_true_eq] at h4
    obtain ⟨hpo, hpl, _⟩ := arePairs_ok (hok.2.2.2.1 h4)
    repeat refine zz ?_
    refine W_cond rfl (fun h5 => ?_) (fun h5 => ?_)
    · simp only [decide_eq_true_eq] at h5
      repeat refine zz ?_
      exact ret1 rfl rfl ⟨by rw [cmpV, if_pos h4, if_pos h5], hk⟩
    simp only [decide_eq_false_iff_not] at h5
    repeat refine zz ?_
    refine o_call rfl rfl rfl (l3Reach_ok hp hpo (by omega)) ?_
    rintro _ w2 ⟨rfl, hk2⟩
    replace hk := hk.keep hk2
    replace hp := hp.keep hk2
    replace hb1 := hb1.keep hk2
    repeat refine zz ?_
    refine W_cond rfl (fun h6 => ?_) (fun h6 => ?_)
    · repeat refine zz ?_
      exact ret1 rfl rfl ⟨by rw [cmpV, if_pos h4, if_neg h5, if_pos h6], hk⟩
    repeat refine zz ?_
    refine o_call rfl rfl rfl (l3Reach_ok hp hpo (by omega)) ?_
    rintro _ w3 ⟨rfl, hk3⟩
    replace hk := hk.keep hk3
    repeat refine zz ?_
    refine W_cond rfl (fun h7 => ?_) (fun h7 => ?_)
    · repeat refine zz ?_
      exact ret1 rfl rfl ⟨by rw [cmpV, if_pos h4, if_neg h5, h6, if_pos h7]; rfl, hk⟩
    repeat refine zz ?_
    exact ret1 rfl rfl ⟨by rw [cmpV, if_pos h4, if_neg h5, h6, h7]; rfl, hk⟩
  simp only [decide_eq_false_iff_not] at h4
  repeat refine zz ?_
  refine o_call rfl rfl rfl (l4Rank_ok hl hp hok.2.2.1 ha) ?_
  rintro _ w2 ⟨rfl, hk2⟩
  replace hk := hk.keep hk2
  replace hl := hl.keep hk2
  replace hp := hp.keep hk2
  replace hb1 := hb1.keep hk2
  repeat refine zz ?_
  refine o_call rfl rfl rfl (l4Rank_ok hl hp hok.2.2.1 hb) ?_
  rintro _ w3 ⟨rfl, hk3⟩
  replace hk := hk.keep hk3
  repeat refine zz ?_
  refine W_cond rfl (fun h5 => ?_) (fun h5 => ?_)
  · simp only [decide_eq_true_eq] at h5
    repeat refine zz ?_
    exact ret1 rfl rfl ⟨by rw [cmpV, if_neg h4, if_pos h5], hk⟩
  simp only [decide_eq_false_iff_not] at h5
  repeat refine zz ?_
  refine W_cond rfl (fun h6 => ?_) (fun h6 => ?_)
  · simp only [decide_eq_true_eq] at h6
    repeat refine zz ?_
    exact ret1 rfl rfl ⟨by rw [cmpV, if_neg h4, if_neg h5, if_pos h6], hk⟩
  simp only [decide_eq_false_iff_not] at h6
  repeat refine zz ?_
  exact ret1 rfl rfl ⟨by rw [cmpV, if_neg h4, if_neg h5, if_neg h6], hk⟩

theorem l5Pareto_ok {w : World} {a b : Int} (ha : isCmp a) (hb : isCmp b) : Run Tryz.prog 95 [.int .i64 a, .int .i64 b] w (fun r w' => r = .int .i64 (comb 1 a b) ∧ w = w') := by
  have hm := cmp_mul ha hb
  have hc : comb 1 a b = if a = 2 ∨ b = 2 ∨ a * b < 0 then 2 else if a ≠ 0 then a else b := by rw [comb, if_pos rfl]
  refine Run_intro Tryz.func95 (by unfold CallOk; kernel_rfl) rfl Tryz.ntmps95 (Nat.le_of_ble_eq_true rfl) ?_
  simp only [penv, Nat.reduceAdd, Nat.zero_add]
  repeat refine zz ?_
  refine WL_part rfl rfl (fun h1 => ?_) (fun h1 => ?_)
  · simp only [decide_eq_true_eq] at h1
    repeat refine zz ?_
    exact ret1 rfl rfl ⟨by rw [hc, if_pos (.inl h1)], rfl⟩
  simp only [decide_eq_false_iff_not] at h1
  repeat refine zz ?_
  refine WL_part rfl rfl (fun h2 => ?_) (fun h2 => ?_)
  · simp only [decide_eq_true_eq] at h2
    repeat refine zz ?_
    exact ret1 rfl rfl ⟨by rw [hc, if_pos (.inr (.inl h2))], rfl⟩
  simp only [decide_eq_false_iff_not] at h2
  repeat refine zz ?_
  refine WL_pure rfl rfl (o_mul rfl rfl hm) ?_
  repeat refine zz ?_
  refine W_cond rfl (fun h3 => ?_) (fun h3 => ?_)
  · simp only [decide_eq_true_eq] at h3
    repeat refine zz ?_
    exact ret1 rfl rfl ⟨by rw [hc, if_pos (.inr (.inr h3))], rfl⟩
  simp only [decide_eq_false_iff_not] at h3
  rw [if_neg (by rintro (h | h | h); exact h1 h; exact h2 h; exact h3 h)] at hc
  repeat refine zz ?_
  refine W_cond rfl (fun h4 => ?_) (fun h4 => ?_)
  · simp only [decide_eq_true_eq] at h4
    repeat refine zz ?_
    exact ret1 rfl rfl ⟨by rw [hc, if_pos h4], rfl⟩
  simp only [decide_eq_false_iff_not] at h4
  repeat refine zz ?_
  exact ret1 rfl rfl ⟨by rw [hc, if_neg h4], rfl⟩

theorem l5Meet_ok {w : World} {op a b : Int} (h1 : op ≠ 1) (h2 : op ≠ 2) : Run Tryz.prog 96 [.int .i64 a, .int .i64 b] w (fun r w' => r = .int .i64 (comb op a b) ∧ w = w') := by
  have hc : comb op a b = if a = b then a else 2 := by rw [comb, if_neg h1, if_neg h2]
  refine Run_intro Tryz.func96 (by unfold CallOk; kernel_rfl) rfl Tryz.ntmps96 (Nat.le_of_ble_eq_true rfl) ?_
  simp only [penv, Nat.reduceAdd, Nat.zero_add]
  repeat refine zz ?_
  refine W_cond rfl (fun h => ?_) (fun h => ?_)
  · simp only [decide_eq_true_eq] at h
    repeat refine zz ?_
    exact ret1 rfl rfl ⟨by rw [hc, if_pos h], rfl⟩
  · simp only [decide_eq_false_iff_not] at h
    repeat refine zz ?_
    exact ret1 rfl rfl ⟨by rw [hc, if_neg h], rfl⟩

theorem l5Op_ok {w : World} {op a b : Int} (ha : isCmp a) (hb : isCmp b) : Run Tryz.prog 74 [.int .i64 op, .int .i64 a, .int .i64 b] w (fun r w' => r = .int .i64 (comb op a b) ∧ w = w') := by
  refine Run_intro Tryz.func74 (by unfold CallOk; kernel_rfl) rfl Tryz.ntmps74 (Nat.le_of_ble_eq_true rfl) ?_
  simp only [penv, Nat.reduceAdd, Nat.zero_add]
  repeat refine zz ?_
  refine W_cond rfl (fun h1 => ?_) (fun h1 => ?_)
  · simp only [decide_eq_true_eq] at h1
    repeat refine zz ?_
    refine o_call rfl rfl rfl (l5Pareto_ok ha hb) ?_
    rintro _ _ ⟨rfl, rfl⟩
    repeat refine zz ?_
    exact ret1 rfl rfl ⟨by rw [h1], rfl⟩
  simp only [decide_eq_false_iff_not] at h1
  repeat refine zz ?_
  refine W_cond rfl (fun h2 => ?_) (fun h2 => ?_)
  · simp only [decide_eq_true_eq] at h2
    have hc : comb op a b = if a ≠ 0 then a else b := by rw [comb, if_neg h1, if_pos h2]
    repeat refine zz ?_
    refine W_cond rfl (fun h3 => ?_) (fun h3 => ?_)
    · simp only [decide_eq_true_eq] at h3
      repeat refine zz ?_
      exact ret1 rfl rfl ⟨by rw [hc, if_pos h3], rfl⟩
    · simp only [decide_eq_false_iff_not] at h3
      repeat refine zz ?_
      exact ret1 rfl rfl ⟨by rw [hc, if_neg h3], rfl⟩
  simp only [decide_eq_false_iff_not] at h2
  repeat refine zz ?_
  refine o_call rfl rfl rfl (l5Meet_ok h1 h2) ?_
  rintro _ _ ⟨rfl, rfl⟩
  repeat refine zz ?_
  exact ret1 rfl rfl ⟨rfl, rfl⟩

theorem combined_ok {w : World} {op a b : Int} (ha : isCmp a) (hb : isCmp b) : Run Tryz.prog 72 [.int .i64 op, .int .i64 a, .int .i64 b] w (fun r w' => r = .int .i64 (comb op a b) ∧ w = w') := by
  have hm := cmp_mul ha hb
  refine Run_intro Tryz.func72 (by unfold CallOk; kernel_rfl) rfl Tryz.ntmps72 (Nat.le_of_ble_eq_true rfl) ?_
  simp only [penv, Nat.reduceAdd, Nat.zero_add]
  repeat refine zz ?_
  refine W_cond rfl (fun h0 => ?_) (fun h0 => ?_)
  · simp only [decide_eq_true_eq] at h0
    have hc : comb op a b = if a = 2 ∨ b = 2 ∨ a * b < 0 then 2 else if a ≠ 0 then a else b := by rw [comb, if_pos h0]
    repeat refine zz ?_
    refine WL_part rfl rfl (fun h1 => ?_) (fun h1 => ?_)
    · simp only [decide_eq_true_eq] at h1
      repeat refine zz ?_
      exact ret1 rfl rfl ⟨by rw [hc, if_pos (.inl h1)], rfl⟩
    simp only [decide_eq_false_iff_not] at h1
    repeat refine zz ?_
    refine WL_part rfl rfl (fun h2 => ?_) (fun h2 => ?_)
    · simp only [decide_eq_true_eq] at h2
      repeat refine zz ?_
      exact ret1 rfl rfl ⟨by rw [hc, if_pos (.inr (.inl h2))], rfl⟩
    simp only [decide_eq_false_iff_not] at h2
    repeat refine zz ?_
    refine WL_pure rfl rfl (o_mul rfl rfl hm) ?_
    repeat refine zz ?_
    refine W_cond rfl (fun h3 => ?_) (fun h3 => ?_)
    · simp only [decide_eq_true_eq] at h3
      repeat refine zz ?_
      exact ret1 rfl rfl ⟨by rw [hc, if_pos (.inr (.inr h3))], rfl⟩
    simp only [decide_eq_false_iff_not] at h3
    rw [if_neg (by rintro (h | h | h); exact h1 h; exact h2 h; exact h3 h)] at hc
    repeat refine zz ?_
    refine W_cond rfl (fun h4 => ?_) (fun h4 => ?_)
    · simp only [decide_eq_true_eq] at h4
      repeat refine zz ?_
      exact ret1 rfl rfl ⟨by rw [hc, if_pos h4], rfl⟩
    simp only [decide_eq_false_iff_not] at h4
    repeat refine zz ?_
    exact ret1 rfl rfl ⟨by rw [hc, if_neg h4], rfl⟩
  simp only [decide_eq_false_iff_not] at h0
  repeat refine zz ?_
  refine W_cond rfl (fun h2 => ?_) (fun h2 => ?_)
  · simp only [decide_eq_true_eq] at h2
    have hc : comb op a b = if a ≠ 0 then a else b := by rw [comb, if_neg h0, if_pos h2]
    repeat refine zz ?_
    refine W_cond rfl (fun h3 => ?_) (fun h3 => ?_)
    · simp only [decide_eq_true_eq] at h3
      repeat refine zz ?_
      exact ret1 rfl rfl ⟨by rw [hc, if_pos h3], rfl⟩
    · simp only [decide_eq_false_iff_not] at h3
      repeat refine zz ?_
      exact ret1 rfl rfl ⟨by rw [hc, if_neg h3], rfl⟩
  simp only [decide_eq_false_iff_not] at h2
  have hc : comb op a b = if a = b then a else 2 := by rw [comb, if_neg h0, if_neg h2]
  repeat refine zz ?_
  refine W_cond rfl (fun h => ?_) (fun h => ?_)
  · simp only [decide_eq_true_eq] at h
    repeat refine zz ?_
    exact ret1 rfl rfl ⟨by rw [hc, if_pos h], rfl⟩
  · simp only [decide_eq_false_iff_not] at h
    repeat refine zz ?_
    exact ret1 rfl rfl ⟨by rw [hc, if_neg h], rfl⟩

set_option maxHeartbeats 1000000 in
theorem impl_RankOfValue_ok {w : World} {v u : Value} {x : Wsh} {f1 f2 : List Nat} {a : Int} (hl : Sl intR w v x.list f1) (hp : Sl pairR w u x.pairs f2) (hw : isWish x = true) (h4 : x.kind ≠ 4) (ha : 0 ≤ a ∧ a ≤ 9) :
    Run Tryz.prog 108 [.agg #[.int .i64 x.kind, .int .i64 x.field, .int .i64 x.value, v, u], .int .i64 a] w (fun r w' => r = .tuple #[.int .i64 (rankV x a), .bool true] ∧ Keep w w') := by
  have hok := isWish_ok hw
  have hia : inR a 0 9 = true := by simp [inR]; omega
  refine Run_intro Tryz.func108 (by unfold CallOk; kernel_rfl) rfl Tryz.ntmps108 (Nat.le_of_ble_eq_true rfl) ?_
  simp only [penv, Nat.reduceAdd, Nat.zero_add]
  repeat refine zz ?_
  refine o_boxS rfl rfl rfl ?_
  intro b1 w1 hal1
  have hb1 := hal1.blk
  have hk := hal1.kp
  replace hl := hl.keep hal1.kp
  replace hp := hp.keep hal1.kp
  repeat refine zz ?_
  refine o_call rfl rfl rfl (impl_IsWish_ok hl hp) ?_
  rintro _ w2 ⟨rfl, hk2⟩
  replace hk := hk.keep hk2
  replace hl := hl.keep hk2
  replace hp := hp.keep hk2
  replace hb1 := hb1.keep hk2
  rw [hw]
  repeat refine zz ?_
  refine o_call rfl rfl rfl (within_ok _ _ _ _) ?_
  rintro _ _ ⟨rfl, rfl⟩
  rw [hia]
  repeat refine zz ?_
  refine W_cond rfl (fun h0 => ?_) (fun h0 => ?_)
  · simp only [decide_eq_true_eq] at h0
    repeat refine zz ?_
    exact ret2 rfl rfl rfl ⟨by rw [rankV, if_pos h0], hk⟩
  simp only [decide_eq_false_iff_not] at h0
  repeat refine zz ?_
  refine W_cond rfl (fun h1 => ?_) (fun h1 => ?_)
  · simp only [decide_eq_true_eq] at h1
    repeat refine zz ?_
    exact ret2 rfl rfl rfl ⟨by rw [rankV, if_neg h0, if_pos h1], hk⟩
  simp only [decide_eq_false_iff_not] at h1
  repeat refine zz ?_
  have hvb := hok.2.2.1
  refine W_cond rfl (fun h2 => ?_) (fun h2 => ?_)
  · simp only [decide_eq_true_eq] at h2
    repeat refine zz ?_
    refine WL_pure rfl rfl (o_max rfl rfl) ?_
    repeat refine zz ?_
    exact ret2 rfl rfl rfl ⟨by rw [rankV, if_neg h0, if_neg h1, if_pos h2], hk⟩
  simp only [decide_eq_false_iff_not] at h2
  repeat refine zz ?_
  have h3 : x.kind = 3 := by omega
  refine W_cond rfl (fun _ => ?_) (fun hf => absurd h3 (by simpa using hf))
  repeat refine zz ?_
  refine o_call rfl rfl rfl (slices_Contains_ok hl) ?_
  rintro _ _ ⟨rfl, rfl⟩
  repeat refine zz ?_
  refine W_cond rfl (fun h5 => ?_) (fun h5 => ?_)
  · repeat refine zz ?_
    exact ret2 rfl rfl rfl ⟨by rw [rankV, if_neg h0, if_neg h1, if_neg h2, if_pos h5], hk⟩
  · repeat refine zz ?_
    exact ret2 rfl rfl rfl ⟨by rw [rankV, if_neg h0, if_neg h1, if_neg h2, h5]; rfl, hk⟩

set_option maxHeartbeats 1000000 in
theorem impl_CompareValues_ok {w : World} {v u : Value} {x : Wsh} {f1 f2 : List Nat} {a b : Int} (hl : Sl intR w v x.list f1) (hp : Sl pairR w u x.pairs f2) (hw : isWish x = true) (ha : 0 ≤ a ∧ a ≤ 9) (hb : 0 ≤ b ∧ b ≤ 9) :
    Run Tryz.prog 92 [.agg #[.int .i64 x.kind, .int .i64 x.field, .int .i64 x.value, v, u], .int .i64 a, .int .i64 b] w (fun r w' => r = .int .i64 (cmpV x a b) ∧ Keep w w') := by
  have hok := isWish_ok hw
  have hia : inR a 0 9 = true := by simp [inR]; omega
  have hib : inR b 0 9 = true := by simp [inR]; omega
  refine Run_intro Tryz.func92 (by unfold CallOk; kernel_rfl) rfl Tryz.ntmps92 (Nat.le_of_ble_eq_true rfl) ?_
  simp only [penv, Nat.reduceAdd, Nat.zero_add]
  repeat refine zz ?_
  refine o_boxS rfl rfl rfl ?_
  intro b1 w1 hal1
  have hb1 := hal1.blk
  have hk := hal1.kp
  replace hl := hl.keep hal1.kp
  replace hp := hp.keep hal1.kp
  repeat refine zz ?_
  refine o_call rfl rfl rfl (impl_IsWish_ok hl hp) ?_
  rintro _ w2 ⟨rfl, hk2⟩
  replace hk := hk.keep hk2
  replace hl := hl.keep hk2
  replace hp := hp.keep hk2
  replace hb1 := hb1.keep hk2
  rw [hw]
  repeat refine zz ?_
  refine o_call rfl rfl rfl (within_ok _ _ _ _) ?_
  rintro _ _ ⟨rfl, rfl⟩
  rw [hia]
  repeat refine zz ?_
  refine o_call rfl rfl rfl (within_ok _ _ _ _) ?_
  rintro _ _ ⟨rfl, rfl⟩
  rw [hib]
  repeat refine zz ?_
  refine W_cond rfl (fun h4 => ?_) (fun h4 => ?_)
  · simp only [decide_eq_true_eq] at h4
    obtain ⟨hpo, hpl, _⟩ := arePairs_ok (hok.2.2.2.1 h4)
    repeat refine zz ?_
    refine o_call rfl rfl rfl (above_ok hp hpo) ?_
    rintro _ w3 ⟨cs, rfl, hg, hk3⟩
    replace hk := hk.keep hk3
    have hkz := hk.size_le
    repeat refine zz ?_
    refine o_alloc rfl rfl ?_
    intro bG w4 hal4
    have hb4 := hal4.blk
    have hz4 := hal4.b_eq
    replace hk := hk.keep hal4.kp
    repeat refine zz ?_
    refine o_storeS (b := bG) (off := 0) rfl rfl rfl rfl hg.one hg.len hb4 (by simp) ?_
    intro w5 hu5
    have hb5 := hu5.blk
    have e5 : ∀ zs : List Value, zs.length = 100 → zs.take 0 ++ cs ++ zs.drop (0 + 100) = cs := fun zs h => by rw [List.drop_of_length_le (by omega)]; simp
    rw [e5 _ (by simp)] at hb5
    replace hk := hk.upd hu5 (by omega)
    have hcab := hg.cell hb5 ha hb
    have hcba := hg.cell hb5 hb ha
    rw [Int.toNat_of_nonneg ha.1, Int.toNat_of_nonneg hb.1] at hcab hcba
    repeat refine zz ?_
    refine W_cond rfl (fun h5 => ?_) (fun h5 => ?_)
    · simp only [decide_eq_true_eq] at h5
      repeat refine zz ?_
      exact ret1 rfl rfl ⟨by rw [cmpV, if_pos h4, if_pos h5], hk⟩
    simp only [decide_eq_false_iff_not] at h5
    repeat refine zz ?_
    refine W_cond rfl (fun h6 => ?_) (fun h6 => ?_)
    · repeat refine zz ?_
      exact ret1 rfl rfl ⟨by rw [cmpV, if_pos h4, if_neg h5, if_pos h6], hk⟩
    repeat refine zz ?_
    refine W_cond rfl (fun h7 => ?_) (fun h7 => ?_)
    · repeat refine zz ?_
      exact ret1 rfl rfl ⟨by rw [cmpV, if_pos h4, if_neg h5, h6, if_pos h7]; rfl, hk⟩
    repeat refine zz ?_
    exact ret1 rfl rfl ⟨by rw [cmpV, if_pos h4, if_neg h5, h6, h7]; rfl, hk⟩
  simp only [decide_eq_false_iff_not] at h4
  repeat refine zz ?_
  refine o_call rfl rfl rfl (impl_RankOfValue_ok hl hp hw h4 ha) ?_
  rintro _ w3 ⟨rfl, hk3⟩
  replace hk := hk.keep hk3
  replace hl := hl.keep hk3
  replace hp := hp.keep hk3
  replace hb1 := hb1.keep hk3
  repeat refine zz ?_
  refine o_call rfl rfl rfl (impl_RankOfValue_ok hl hp hw h4 hb) ?_
  rintro _ w4 ⟨rfl, hk4⟩
  replace hk := hk.keep hk4
  repeat refine zz ?_
  refine W_cond rfl (fun h5 => ?_) (fun h5 => ?_)
  · simp only [decide_eq_true_eq] at h5
    repeat refine zz ?_
    exact ret1 rfl rfl ⟨by rw [cmpV, if_neg h4, if_pos h5], hk⟩
  simp only [decide_eq_false_iff_not] at h5
  repeat refine zz ?_
  refine W_cond rfl (fun h6 => ?_) (fun h6 => ?_)
  · simp only [decide_eq_true_eq] at h6
    repeat refine zz ?_
    exact ret1 rfl rfl ⟨by rw [cmpV, if_neg h4, if_neg h5, if_pos h6], hk⟩
  simp only [decide_eq_false_iff_not] at h6
  repeat refine zz ?_
  exact ret1 rfl rfl ⟨by rw [cmpV, if_neg h4, if_neg h5, if_neg h6], hk⟩

theorem wish_at {x : Wsh} {y : Itm} (hw : isWish x = true) (hy : isItem y = true) : (0 ≤ x.field ∧ x.field < y.vals.length) ∧ 0 ≤ gi y.vals x.field ∧ gi y.vals x.field ≤ 9 := by
  have h1 := (isWish_ok hw).1
  have h2 := isItem_len hy
  obtain ⟨k, hk⟩ := Int.eq_ofNat_of_zero_le h1.1
  have h3 := areVals_at (isItem_vals hy) (i := k) (by omega)
  rw [← hk] at h3
  exact ⟨by omega, h3⟩

set_option maxHeartbeats 1000000 in
theorem impl_CompareItems_ok {w : World} {v u vx vy : Value} {x : Wsh} {y z : Itm} {f1 f2 fy fz : List Nat} (hl : Sl intR w v x.list f1) (hp : Sl pairR w u x.pairs f2) (hy : Sl intR w vx y.vals fy) (hz : Sl intR w vy z.vals fz)
    (hw : isWish x = true) (iy : isItem y = true) (iz : isItem z = true) :
    Run Tryz.prog 71 [.agg #[.int .i64 x.kind, .int .i64 x.field, .int .i64 x.value, v, u], .agg #[.int .i64 y.id, vx], .agg #[.int .i64 z.id, vy]] w (fun r w' => r = .int .i64 (itemCmp x y z) ∧ Keep w w') := by
  obtain ⟨hy1, hy2⟩ := wish_at hw iy
  obtain ⟨hz1, hz2⟩ := wish_at hw iz
  refine Run_intro Tryz.func71 (by unfold CallOk; kernel_rfl) rfl Tryz.ntmps71 (Nat.le_of_ble_eq_true rfl) ?_
  simp only [penv, Nat.reduceAdd, Nat.zero_add]
  repeat refine zz ?_
  refine o_boxS rfl rfl rfl ?_
  intro b1 w1 hal1
  have hb1 := hal1.blk
  have hk := hal1.kp
  replace hl := hl.keep hal1.kp
  replace hp := hp.keep hal1.kp
  replace hy := hy.keep hal1.kp
  replace hz := hz.keep hal1.kp
  repeat refine zz ?_
  refine o_boxS rfl rfl rfl ?_
  intro b2 w2 hal2
  have hb2 := hal2.blk
  replace hl := hl.keep hal2.kp
  replace hp := hp.keep hal2.kp
  replace hy := hy.keep hal2.kp
  replace hz := hz.keep hal2.kp
  replace hk := hk.keep hal2.kp
  replace hb1 := hb1.keep hal2.kp
  repeat refine zz ?_
  refine o_boxS rfl rfl rfl ?_
  intro b3 w3 hal3
  have hb3 := hal3.blk
  replace hl := hl.keep hal3.kp
  replace hp := hp.keep hal3.kp
  replace hy := hy.keep hal3.kp
  replace hz := hz.keep hal3.kp
  replace hk := hk.keep hal3.kp
  replace hb1 := hb1.keep hal3.kp
  replace hb2 := hb2.keep hal3.kp
  repeat refine zz ?_
  refine o_call rfl rfl rfl (impl_IsWish_ok hl hp) ?_
  rintro _ w4 ⟨rfl, hk4⟩
  replace hl := hl.keep hk4
  replace hp := hp.keep hk4
  replace hy := hy.keep hk4
  replace hz := hz.keep hk4
  replace hk := hk.keep hk4
  replace hb1 := hb1.keep hk4
  replace hb2 := hb2.keep hk4
  replace hb3 := hb3.keep hk4
  rw [hw]
  repeat refine zz ?_
  refine o_call rfl rfl rfl (impl_IsItem_ok hy) ?_
  rintro _ w5 ⟨rfl, hk5⟩
  replace hl := hl.keep hk5
  replace hp := hp.keep hk5
  replace hy := hy.keep hk5
  replace hz := hz.keep hk5
  replace hk := hk.keep hk5
  replace hb1 := hb1.keep hk5
  replace hb2 := hb2.keep hk5
  replace hb3 := hb3.keep hk5
  rw [iy]
  repeat refine zz ?_
  refine o_call rfl rfl rfl (impl_IsItem_ok hz) ?_
  rintro _ w6 ⟨rfl, hk6⟩
  replace hl := hl.keep hk6
  replace hp := hp.keep hk6
  replace hy := hy.keep hk6
  replace hz := hz.keep hk6
  replace hk := hk.keep hk6
  replace hb1 := hb1.keep hk6
  replace hb2 := hb2.keep hk6
  replace hb3 := hb3.keep hk6
  rw [iz]
  repeat refine zz ?_
  obtain ⟨A1, n1, c1, rfl, hn1⟩ := hy.split
  obtain ⟨A2, n2, c2, rfl, hn2⟩ := hz.split
  obtain ⟨hA1, hc1⟩ := hy.getI (i := x.field) (by omega) (by omega)
  obtain ⟨hA2, hc2⟩ := hz.getI (i := x.field) (by omega) (by omega)
  refine W_quiet (Keep w6) (by kernel_rfl) (by kernel_rfl) (Keep.drew _) ?_
  repeat refine qq ?_
  refine WQ_call rfl rfl rfl (fun w' hw' => (impl_CompareValues_ok (hl.keep hw') (hp.keep hw') hw hy2 hz2).kk hw') ?_
  repeat refine qq ?_
  intro w7 hk7 
  repeat refine zz ?_
  exact ret1 rfl rfl ⟨rfl, hk.keep hk7⟩
end Go.E
set_option linter.unusedVariables false
set_option linter.unusedSimpArgs false
namespace Go.E
open Go Go.RowKit Go.Proofs
theorem stkCmp {e : List Nod} (x y : Itm) {n : Nat} (h : ∀ i, i < n → exOk e i = true) : ∀ c, c ∈ stk e x y n → isCmp c := by
  intro c hc
  rw [stk_eq] at hc
  obtain ⟨f, hf, rfl⟩ := List.mem_map.1 hc
  exact (stkF_ok h f hf).rng x y
theorem stk_succ (e : List Nod) (x y : Itm) (n : Nat) : stk e x y (n + 1) = if (gi e (n : Int)).op = 0 then stk e x y n ++ [itemCmp (gi e (n : Int)).wish x y]
    else if (gi e (n : Int)).op = 3 then (stk e x y n).set ((stk e x y n).length - 1) (dual (gi (stk e x y n) (((stk e x y n).length - 1 : Nat) : Int)))
    else (stk e x y n).take ((stk e x y n).length - 2) ++ [comb (gi e (n : Int)).op (gi (stk e x y n) (((stk e x y n).length - 2 : Nat) : Int)) (gi (stk e x y n) (((stk e x y n).length - 1 : Nat) : Int))] := rfl
theorem itemCmp_def (w : Wsh) (x y : Itm) : itemCmp w x y = cmpV w (gi x.vals w.field) (gi y.vals w.field) := rfl
theorem set_gi {xs : List Int} {k : Nat} (h : k < xs.length) : xs.set k (gi xs (k : Int)) = xs := by rw [gi_lt h]; exact List.set_getElem_self h
attribute [local irreducible] W WL WD WE thenE inE retQ PureOp Keep Cell Cells Blk Sl Rows Own Src Fresh
attribute [local irreducible] stk itemCmp comb

set_option maxHeartbeats 2000000 in
theorem l5Compare_ok {w : World} {v vx vy : Value} {e : List Nod} {x y : Itm} {fp fx fy : List Nat} (he : Sl nodeR w v e fp) (hx : Sl intR w vx x.vals fx) (hy : Sl intR w vy y.vals fy) (hex : isExpr e = true) (ix : isItem x = true) (iy : isItem y = true) :
    Run Tryz.prog 55 [v, .agg #[.int .i64 x.id, vx], .agg #[.int .i64 y.id, vy]] w (fun r w' => r = .int .i64 (cmpE e x y) ∧ Keep w w') := by
  obtain ⟨hall, hdep, hlen9⟩ := isExpr_ok hex
  obtain ⟨A, n, c, rfl, hnx⟩ := he.split
  refine Run_intro Tryz.func55 (by unfold CallOk; kernel_rfl) rfl Tryz.ntmps55 (Nat.le_of_ble_eq_true rfl) ?_
  simp only [penv, Nat.reduceAdd, Nat.zero_add]
  repeat refine zz ?_
  refine o_boxS rfl rfl rfl ?_
  intro b1 w1 hal1
  have hb1 := hal1.blk
  have hk := hal1.kp
  repeat refine zz ?_
  refine o_boxS rfl rfl rfl ?_
  intro b2 w2 hal2
  have hb2 := hal2.blk
  replace hk := hk.keep hal2.kp
  replace hb1 := hb1.keep hal2.kp
  replace he := he.keep hk
  replace hx := hx.keep hk
  replace hy := hy.keep hk
  repeat refine zz ?_
  refine o_buildSlice rfl rfl rfl rfl rfl (by intro p hp; cases hp) (by omega) ?_
  intro b3 w3 hal3
  have ho : OwnF intR w3 w2.heap.size 3 (.slice (some ⟨b3, 0, none⟩) 0 0) [] [] := OwnF.made hal3.blk (by have := hal3.b_eq; omega)
  repeat refine zz ?_
  refine W_loop (S := Nat × Value) (fun s => [(0, .slice A n c), (4, .pointer (some ⟨b1, 0, none⟩)), (5, .pointer (some ⟨b2, 0, none⟩)), (7, s.2), (8, .int .i64 (s.1 : Int))]) (fun s w' => Keep w2 w' ∧ s.1 ≤ n ∧ OwnF intR w' w2.heap.size 3 s.2 (stk e x y s.1) []) (fun s => n - s.1) (0, _) ⟨rfl, rfl, rfl, rfl, rfl, trivial⟩ ⟨hal3.kp, Nat.zero_le _, by unfold stk; exact ho⟩ ?_
  clear ho hal3 hal2 hal1
  rintro ⟨k, va⟩ wa ⟨hka, hkn, hoa⟩
  dsimp only at hkn hoa ⊢
  replace he := he.keep hka
  replace hx := hx.keep hka
  replace hy := hy.keep hka
  replace hb1 := hb1.keep hka
  replace hb2 := hb2.keep hka
  have hlk : ((stk e x y k).length : Int) = exD e k := stk_len fun i hi => hall i (by omega)
  have hd1 := exD_le e k
  obtain ⟨As, ns, cs, rfl, hns, hnc⟩ := hoa.split
  repeat refine zz ?_
  refine W_cond rfl (fun hc => ?_) (fun hc => ?_)
  · have hkl : k < n := by simp at hc; omega
    obtain ⟨hA, vl, ul, f1, f2, hcell, hvl, hul, _⟩ := node_get he (i := (k : Int)) (by omega) (by omega)
    obtain ⟨hop, hdp, how, hon⟩ := exOk_op (hall k (by omega))
    obtain ⟨fo, hso, hfo⟩ := hoa.sl (by decide)
    have hsk := stk_succ e x y k
    have hsc := stkCmp (e := e) x y (n := k) fun i hi => hall i (by omega)
    generalize stk e x y k = S at *
    repeat refine zz ?_
    refine W_cond rfl (fun h0 => ?_) (fun h0 => ?_)
    · simp only [decide_eq_true_eq] at h0
      have hw := how h0
      rw [if_pos h0] at hsk
      obtain ⟨hx1, hx2⟩ := wish_at hw ix
      obtain ⟨hy1, hy2⟩ := wish_at hw iy
      obtain ⟨A1, n1, c1, rfl, hn1⟩ := hx.split
      obtain ⟨A2, n2, c2, rfl, hn2⟩ := hy.split
      obtain ⟨hA1, hc1⟩ := hx.getI (i := (gi e (k : Int)).wish.field) (by omega) (by omega)
      obtain ⟨hA2, hc2⟩ := hy.getI (i := (gi e (k : Int)).wish.field) (by omega) (by omega)
      repeat refine zz ?_
      refine W_late (Keep wa) [18] (by kernel_rfl) (Keep.drew wa) ?_
      first|refine e_o 0 ?_|refine e_a 0 ?_|refine e_s 0 ?_|refine e_n 0 ?_|refine e_i 0 ?_|refine e_f 0 ?_|refine e_b 0 ?_|refine e_d 0 ?_|refine e_l1 0 ?_|refine e_l2 0 ?_|refine e_l3 0 ?_|refine e_l4 0 ?_|refine e_l5 0 ?_|refine e_l6 0 ?_|refine e_l7 0 ?_|refine e_l8 0 ?_|refine e_l9 0 ?_|refine e_g 0 ?_|refine e_q 0 ?_|refine e_e 0 ?_|refine e_j 0 ?_
      first|refine e_o 1 ?_|refine e_a 1 ?_|refine e_s 1 ?_|refine e_n 1 ?_|refine e_i 1 ?_|refine e_f 1 ?_|refine e_b 1 ?_|refine e_d 1 ?_|refine e_l1 1 ?_|refine e_l2 1 ?_|refine e_l3 1 ?_|refine e_l4 1 ?_|refine e_l5 1 ?_|refine e_l6 1 ?_|refine e_l7 1 ?_|refine e_l8 1 ?_|refine e_l9 1 ?_|refine e_g 1 ?_|refine e_q 1 ?_|refine e_e 1 ?_|refine e_j 1 ?_
      first|refine e_o 2 ?_|refine e_a 2 ?_|refine e_s 2 ?_|refine e_n 2 ?_|refine e_i 2 ?_|refine e_f 2 ?_|refine e_b 2 ?_|refine e_d 2 ?_|refine e_l1 2 ?_|refine e_l2 2 ?_|refine e_l3 2 ?_|refine e_l4 2 ?_|refine e_l5 2 ?_|refine e_l6 2 ?_|refine e_l7 2 ?_|refine e_l8 2 ?_|refine e_l9 2 ?_|refine e_g 2 ?_|refine e_q 2 ?_|refine e_e 2 ?_|refine e_j 2 ?_
      first|refine e_o 3 ?_|refine e_a 3 ?_|refine e_s 3 ?_|refine e_n 3 ?_|refine e_i 3 ?_|refine e_f 3 ?_|refine e_b 3 ?_|refine e_d 3 ?_|refine e_l1 3 ?_|refine e_l2 3 ?_|refine e_l3 3 ?_|refine e_l4 3 ?_|refine e_l5 3 ?_|refine e_l6 3 ?_|refine e_l7 3 ?_|refine e_l8 3 ?_|refine e_l9 3 ?_|refine e_g 3 ?_|refine e_q 3 ?_|refine e_e 3 ?_|refine e_j 3 ?_
      first|refine e_o 4 ?_|refine e_a 4 ?_|refine e_s 4 ?_|refine e_n 4 ?_|refine e_i 4 ?_|refine e_f 4 ?_|refine e_b 4 ?_|refine e_d 4 ?_|refine e_l1 4 ?_|refine e_l2 4 ?_|refine e_l3 4 ?_|refine e_l4 4 ?_|refine e_l5 4 ?_|refine e_l6 4 ?_|refine e_l7 4 ?_|refine e_l8 4 ?_|refine e_l9 4 ?_|refine e_g 4 ?_|refine e_q 4 ?_|refine e_e 4 ?_|refine e_j 4 ?_
      first|refine e_o 5 ?_|refine e_a 5 ?_|refine e_s 5 ?_|refine e_n 5 ?_|refine e_i 5 ?_|refine e_f 5 ?_|refine e_b 5 ?_|refine e_d 5 ?_|refine e_l1 5 ?_|refine e_l2 5 ?_|refine e_l3 5 ?_|refine e_l4 5 ?_|refine e_l5 5 ?_|refine e_l6 5 ?_|refine e_l7 5 ?_|refine e_l8 5 ?_|refine e_l9 5 ?_|refine e_g 5 ?_|refine e_q 5 ?_|refine e_e 5 ?_|refine e_j 5 ?_
      first|refine e_o 6 ?_|refine e_a 6 ?_|refine e_s 6 ?_|refine e_n 6 ?_|refine e_i 6 ?_|refine e_f 6 ?_|refine e_b 6 ?_|refine e_d 6 ?_|refine e_l1 6 ?_|refine e_l2 6 ?_|refine e_l3 6 ?_|refine e_l4 6 ?_|refine e_l5 6 ?_|refine e_l6 6 ?_|refine e_l7 6 ?_|refine e_l8 6 ?_|refine e_l9 6 ?_|refine e_g 6 ?_|refine e_q 6 ?_|refine e_e 6 ?_|refine e_j 6 ?_
      first|refine e_o 7 ?_|refine e_a 7 ?_|refine e_s 7 ?_|refine e_n 7 ?_|refine e_i 7 ?_|refine e_f 7 ?_|refine e_b 7 ?_|refine e_d 7 ?_|refine e_l1 7 ?_|refine e_l2 7 ?_|refine e_l3 7 ?_|refine e_l4 7 ?_|refine e_l5 7 ?_|refine e_l6 7 ?_|refine e_l7 7 ?_|refine e_l8 7 ?_|refine e_l9 7 ?_|refine e_g 7 ?_|refine e_q 7 ?_|refine e_e 7 ?_|refine e_j 7 ?_
      first|refine e_o 8 ?_|refine e_a 8 ?_|refine e_s 8 ?_|refine e_n 8 ?_|refine e_i 8 ?_|refine e_f 8 ?_|refine e_b 8 ?_|refine e_d 8 ?_|refine e_l1 8 ?_|refine e_l2 8 ?_|refine e_l3 8 ?_|refine e_l4 8 ?_|refine e_l5 8 ?_|refine e_l6 8 ?_|refine e_l7 8 ?_|refine e_l8 8 ?_|refine e_l9 8 ?_|refine e_g 8 ?_|refine e_q 8 ?_|refine e_e 8 ?_|refine e_j 8 ?_
      first|refine e_o 9 ?_|refine e_a 9 ?_|refine e_s 9 ?_|refine e_n 9 ?_|refine e_i 9 ?_|refine e_f 9 ?_|refine e_b 9 ?_|refine e_d 9 ?_|refine e_l1 9 ?_|refine e_l2 9 ?_|refine e_l3 9 ?_|refine e_l4 9 ?_|refine e_l5 9 ?_|refine e_l6 9 ?_|refine e_l7 9 ?_|refine e_l8 9 ?_|refine e_l9 9 ?_|refine e_g 9 ?_|refine e_q 9 ?_|refine e_e 9 ?_|refine e_j 9 ?_
      first|refine e_o 10 ?_|refine e_a 10 ?_|refine e_s 10 ?_|refine e_n 10 ?_|refine e_i 10 ?_|refine e_f 10 ?_|refine e_b 10 ?_|refine e_d 10 ?_|refine e_l1 10 ?_|refine e_l2 10 ?_|refine e_l3 10 ?_|refine e_l4 10 ?_|refine e_l5 10 ?_|refine e_l6 10 ?_|refine e_l7 10 ?_|refine e_l8 10 ?_|refine e_l9 10 ?_|refine e_g 10 ?_|refine e_q 10 ?_|refine e_e 10 ?_|refine e_j 10 ?_
      first|refine e_o 11 ?_|refine e_a 11 ?_|refine e_s 11 ?_|refine e_n 11 ?_|refine e_i 11 ?_|refine e_f 11 ?_|refine e_b 11 ?_|refine e_d 11 ?_|refine e_l1 11 ?_|refine e_l2 11 ?_|refine e_l3 11 ?_|refine e_l4 11 ?_|refine e_l5 11 ?_|refine e_l6 11 ?_|refine e_l7 11 ?_|refine e_l8 11 ?_|refine e_l9 11 ?_|refine e_g 11 ?_|refine e_q 11 ?_|refine e_e 11 ?_|refine e_j 11 ?_
      first|refine e_o 12 ?_|refine e_a 12 ?_|refine e_s 12 ?_|refine e_n 12 ?_|refine e_i 12 ?_|refine e_f 12 ?_|refine e_b 12 ?_|refine e_d 12 ?_|refine e_l1 12 ?_|refine e_l2 12 ?_|refine e_l3 12 ?_|refine e_l4 12 ?_|refine e_l5 12 ?_|refine e_l6 12 ?_|refine e_l7 12 ?_|refine e_l8 12 ?_|refine e_l9 12 ?_|refine e_g 12 ?_|refine e_q 12 ?_|refine e_e 12 ?_|refine e_j 12 ?_
      first|refine e_o 13 ?_|refine e_a 13 ?_|refine e_s 13 ?_|refine e_n 13 ?_|refine e_i 13 ?_|refine e_f 13 ?_|refine e_b 13 ?_|refine e_d 13 ?_|refine e_l1 13 ?_|refine e_l2 13 ?_|refine e_l3 13 ?_|refine e_l4 13 ?_|refine e_l5 13 ?_|refine e_l6 13 ?_|refine e_l7 13 ?_|refine e_l8 13 ?_|refine e_l9 13 ?_|refine e_g 13 ?_|refine e_q 13 ?_|refine e_e 13 ?_|refine e_j 13 ?_
      first|refine e_o 14 ?_|refine e_a 14 ?_|refine e_s 14 ?_|refine e_n 14 ?_|refine e_i 14 ?_|refine e_f 14 ?_|refine e_b 14 ?_|refine e_d 14 ?_|refine e_l1 14 ?_|refine e_l2 14 ?_|refine e_l3 14 ?_|refine e_l4 14 ?_|refine e_l5 14 ?_|refine e_l6 14 ?_|refine e_l7 14 ?_|refine e_l8 14 ?_|refine e_l9 14 ?_|refine e_g 14 ?_|refine e_q 14 ?_|refine e_e 14 ?_|refine e_j 14 ?_
      first|refine e_o 15 ?_|refine e_a 15 ?_|refine e_s 15 ?_|refine e_n 15 ?_|refine e_i 15 ?_|refine e_f 15 ?_|refine e_b 15 ?_|refine e_d 15 ?_|refine e_l1 15 ?_|refine e_l2 15 ?_|refine e_l3 15 ?_|refine e_l4 15 ?_|refine e_l5 15 ?_|refine e_l6 15 ?_|refine e_l7 15 ?_|refine e_l8 15 ?_|refine e_l9 15 ?_|refine e_g 15 ?_|refine e_q 15 ?_|refine e_e 15 ?_|refine e_j 15 ?_
      have kd : Keep wa wa.drew := Keep.drew wa
      replace hvl := hvl.keep kd
      replace hul := hul.keep kd
      replace hoa := hoa.keep kd
      replace hka := hka.keep kd
      refine WE_one 16 (by kernel_rfl) rfl ?_
      refine o_call rfl rfl rfl (l4Compare_ok hvl hul hw hx2 hy2) ?_
      rintro _ w4 ⟨rfl, hk4⟩
      replace kd := kd.keep hk4
      replace hoa := hoa.keep hk4
      replace hka := hka.keep hk4
      refine WL_end ⟨kd, ?_⟩
      refine WE_one 17 (by kernel_rfl) rfl ?_
      refine o_buildSlice rfl rfl rfl rfl rfl (by simp [Value.cells]) (by omega) ?_
      intro b5 w5 hal5
      have hkz := hka.size_le
      have hz5 := hal5.size
      replace hoa := hoa.keep hal5.kp
      replace hka := hka.keep hal5.kp
      refine WL_end ⟨kd.keep hal5.kp, ?_⟩
      refine WE_last 18 (by kernel_rfl) rfl (by kernel_rfl) ?_
      refine o_appendF (R := intR) (M := _) (gi := []) rfl rfl rfl rfl rfl (by decide) hoa (Blk.src (xs := [cmpV (gi e (k : Int)).wish (gi x.vals (gi e (k : Int)).wish.field) (gi y.vals (gi e (k : Int)).wish.field)]) hal5.blk (Rows.ints _ _)) rfl (Fresh.nil _ _) (fun b hb => by simp at hb) (fun b hb => (hoa.lt hb).2) (fun b hb => by simp at hb) (by simp only [List.length_cons, List.length_nil]; omega) (by simp only [List.length_cons, List.length_nil]; omega) (by omega) ?_
      intro v6 w6 ho6 hb6 hg6
      have hk6 : Keep w2 w6 := hka.grown hg6 (fun b hb => (hoa.lt hb).1)
      refine WL_end ?_
      first|refine e_o 19 ?_|refine e_a 19 ?_|refine e_s 19 ?_|refine e_n 19 ?_|refine e_i 19 ?_|refine e_f 19 ?_|refine e_b 19 ?_|refine e_d 19 ?_|refine e_l1 19 ?_|refine e_l2 19 ?_|refine e_l3 19 ?_|refine e_l4 19 ?_|refine e_l5 19 ?_|refine e_l6 19 ?_|refine e_l7 19 ?_|refine e_l8 19 ?_|refine e_l9 19 ?_|refine e_g 19 ?_|refine e_q 19 ?_|refine e_e 19 ?_|refine e_j 19 ?_
      refine WE_done (by kernel_rfl) ?_
      repeat refine zz ?_
      exact ⟨(k + 1, v6), ⟨rfl, rfl, rfl, rfl, rfl, trivial⟩, ⟨hk6, by dsimp only; omega, by dsimp only; rw [hsk, itemCmp_def]; exact ho6⟩, by dsimp only; omega⟩
    simp only [decide_eq_false_iff_not] at h0
    rw [if_neg h0] at hsk
    repeat refine zz ?_
    refine W_cond rfl (fun h3 => ?_) (fun h3 => ?_)
    · simp only [decide_eq_true_eq] at h3
      rw [if_pos h3] at hsk
      have hd3 : opnds (gi e (k : Int)).op = 1 := by rw [h3]; rfl
      have hSn : S ≠ [] := fun e => by rw [e] at hlk; simp at hlk; omega
      obtain ⟨bo, cap, cl, hve, hbo, hbl, hcl, hcap, hcg, hst⟩ := hoa.stI hSn
      simp only [Value.slice.injEq] at hve
      obtain ⟨rfl, rfl, rfl⟩ := hve
      have hpos : 0 < S.length := List.length_pos_iff.2 hSn
      have hci : Cell wa (ea (some ⟨bo, 0, none⟩) 1 ((S.length : Int) - 1)) (.int .i64 (gi S ((S.length - 1 : Nat) : Int))) := by
        rw [show (S.length : Int) - 1 = ((S.length - 1 : Nat) : Int) by omega, ea_blk]
        exact hbl.cell (by rw [Nat.zero_add, Nat.mul_one]; exact hcg _ (by omega))
      have hcm := hsc _ (gi_in (xs := S) (i := S.length - 1) (by omega))
      repeat refine zz ?_
      refine W_cond rfl (fun h2 => ?_) (fun h2 => ?_)
      · simp only [decide_eq_true_eq] at h2
        have hdu : dual (gi S ((S.length - 1 : Nat) : Int)) = - gi S ((S.length - 1 : Nat) : Int) := by rw [dual, if_neg h2]
        repeat refine zz ?_
        refine WL_pure rfl rfl (o_neg rfl (by rcases hcm with h | h | h | h <;> rw [h] <;> omega)) ?_
        repeat refine zz ?_
        refine o_store1 (off := S.length - 1) rfl rfl (by rw [show (S.length : Int) - 1 = ((S.length - 1 : Nat) : Int) by omega, ea_blk]; simp) rfl rfl hbl (by omega) ?_
        intro w4 hu4
        have ho4 := hst w4 (S.length - 1) _ (by omega) hu4
        repeat refine zz ?_
        exact ⟨(k + 1, _), ⟨rfl, rfl, rfl, rfl, rfl, trivial⟩, ⟨hka.upd hu4 hbo, by dsimp only; omega, by dsimp only; rw [hsk, hdu]; exact ho4⟩, by dsimp only; omega⟩
      · simp only [decide_eq_false_iff_not, Classical.not_not] at h2
        have hdu : dual (gi S ((S.length - 1 : Nat) : Int)) = gi S ((S.length - 1 : Nat) : Int) := by rw [dual, if_pos h2, h2]
        repeat refine zz ?_
        exact ⟨(k + 1, _), ⟨rfl, rfl, rfl, rfl, rfl, trivial⟩, ⟨hka, by dsimp only; omega, by dsimp only; rw [hsk, hdu, set_gi (by omega)]; exact hoa⟩, by dsimp only; omega⟩
    simp only [decide_eq_false_iff_not] at h3
    rw [if_neg h3] at hsk
    have hd2 : opnds (gi e (k : Int)).op = 2 := by rw [opnds, if_neg h0, if_neg h3]
    have hS2 : 2 ≤ S.length := by omega
    obtain ⟨hAs, hp1⟩ := hso.getI (i := (ns : Int) - 2) (by omega) (by omega)
    obtain ⟨_, hp2⟩ := hso.getI (i := (ns : Int) - 1) (by omega) (by omega)
    have e1 : (ns : Int) - 2 = ((S.length - 2 : Nat) : Int) := by omega
    have e2 : (ns : Int) - 1 = ((S.length - 1 : Nat) : Int) := by omega
    have hm1 := hsc _ (gi_in (xs := S) (i := S.length - 2) (by omega))
    have hm2 := hsc _ (gi_in (xs := S) (i := S.length - 1) (by omega))
    rw [← e1] at hm1
    rw [← e2] at hm2
    rw [← e1, ← e2] at hsk
    repeat refine zz ?_
    refine W_quiet (Keep wa) (by kernel_rfl) (by kernel_rfl) (Keep.drew _) ?_
    repeat refine qq ?_
    refine WQ_call rfl rfl rfl (fun w' hw' => (l5Op_ok hm1 hm2).kp hw') ?_
    repeat refine qq ?_
    intro w4 hk4 
    replace hoa := hoa.keep hk4
    replace hka := hka.keep hk4
    have hkz := hka.size_le
    repeat refine zz ?_
    refine WL_pure rfl rfl (o_slice_hi (h := ns - 2) rfl (find_int rfl (by omega)) (by omega)) ?_
    repeat refine zz ?_
    have hoc := hoa.cutI (k := ns - 2) (by omega)
    refine o_buildSlice rfl rfl rfl rfl rfl (by simp [Value.cells]) (by omega) ?_
    intro b5 w5 hal5
    have hz5 := hal5.size
    replace hoc := hoc.keep hal5.kp
    replace hka := hka.keep hal5.kp
    repeat refine zz ?_
    refine o_appendF (R := intR) (M := _) (gi := []) rfl rfl rfl rfl rfl (by decide) hoc (Blk.src (xs := [comb (gi e (k : Int)).op (gi S ((ns : Int) - 2)) (gi S ((ns : Int) - 1))]) hal5.blk (Rows.ints _ _)) rfl (Fresh.nil _ _) (fun b hb => by simp at hb) (fun b hb => (hoc.lt hb).2) (fun b hb => by simp at hb) (by rw [List.length_take]; simp only [List.length_cons, List.length_nil]; omega) (by rw [List.length_take]; simp only [List.length_cons, List.length_nil]; omega) (by omega) ?_
    intro v6 w6 ho6 hb6 hg6
    have hk6 : Keep w2 w6 := hka.grown hg6 (fun b hb => (hoc.lt hb).1)
    repeat refine zz ?_
    exact ⟨(k + 1, v6), ⟨rfl, rfl, rfl, rfl, rfl, trivial⟩, ⟨hk6, by dsimp only; omega, by dsimp only; rw [hsk, ← hns]; exact ho6⟩, by dsimp only; omega⟩
  · simp at hc
    obtain rfl : k = n := by omega
    obtain ⟨fo, hso, hfo⟩ := hoa.sl (by decide)
    have hl1 : (stk e x y k).length = 1 := by rw [hnx] at hlk ⊢; omega
    obtain ⟨hAs, hp1⟩ := hso.getI (i := 0) (by omega) (by omega)
    repeat refine zz ?_
    exact ret1 rfl rfl ⟨by rw [cmpE, ← hnx], hk.keep hka⟩
end Go.E
set_option linter.unusedVariables false
set_option linter.unusedSimpArgs false
namespace Go.E
open Go Go.RowKit Go.Proofs
theorem Blk.inj {w : World} {b : Nat} {t t' : TypeId} {cs cs' : List Value} (h : Blk w b t cs) (h' : Blk w b t' cs') : cs = cs' := by
  unfold Blk at h h'
  rw [h] at h'
  simp at h'
  exact h'.1
theorem stk_bin (S : List Int) (c : Int) (h : 2 ≤ S.length) : (S.set (S.length - 2) c).take (S.length - 1) = S.take (S.length - 2) ++ [c] := by
  rw [List.set_eq_take_append_cons_drop, if_pos (by omega), List.take_append, List.length_take, Nat.min_eq_left (by omega), List.take_of_length_le (by rw [List.length_take]; omega), show S.length - 1 - (S.length - 2) = 1 by omega]
  rfl
attribute [local irreducible] W WL WD WE thenE inE retQ PureOp Keep Cell Cells Blk Sl Rows Own Src Fresh
attribute [local irreducible] stk itemCmp comb

set_option maxHeartbeats 2000000 in
theorem compareBy_ok {w : World} {v vx vy : Value} {e : List Nod} {x y : Itm} {fp fx fy : List Nat} (he : Sl nodeR w v e fp) (hx : Sl intR w vx x.vals fx) (hy : Sl intR w vy y.vals fy) (hex : isExpr e = true) (ix : isItem x = true) (iy : isItem y = true) :
    Run Tryz.prog 54 [v, .agg #[.int .i64 x.id, vx], .agg #[.int .i64 y.id, vy]] w (fun r w' => r = .int .i64 (cmpE e x y) ∧ Keep w w') := by
  obtain ⟨hall, hdep, hlen9⟩ := isExpr_ok hex
  obtain ⟨A, n, c, rfl, hnx⟩ := he.split
  refine Run_intro Tryz.func54 (by unfold CallOk; kernel_rfl) rfl Tryz.ntmps54 (Nat.le_of_ble_eq_true rfl) ?_
  simp only [penv, Nat.reduceAdd, Nat.zero_add]
  repeat refine zz ?_
  refine o_boxS rfl rfl rfl ?_
  intro b1 w1 hal1
  have hb1 := hal1.blk
  have hk := hal1.kp
  repeat refine zz ?_
  refine o_boxS rfl rfl rfl ?_
  intro b2 w2 hal2
  have hb2 := hal2.blk
  replace hk := hk.keep hal2.kp
  replace hb1 := hb1.keep hal2.kp
  replace he := he.keep hk
  replace hx := hx.keep hk
  replace hy := hy.keep hk
  repeat refine zz ?_
  refine o_buildSlice rfl rfl rfl rfl rfl (by intro p hp; cases hp) (by omega) ?_
  intro b3 w3 hal3
  have ho : OwnF intR w3 w2.heap.size 3 (.slice (some ⟨b3, 0, none⟩) 0 0) [] [] := OwnF.made hal3.blk (by have := hal3.b_eq; omega)
  repeat refine zz ?_
  refine W_loop (S := Nat × Value) (fun s => [(4, .pointer (some ⟨b1, 0, none⟩)), (5, .pointer (some ⟨b2, 0, none⟩)), (7, s.2), (12, .slice A n c), (13, .int .i64 n), (14, .int .i64 (s.1 : Int))]) (fun s w' => Keep w2 w' ∧ s.1 ≤ n ∧ OwnF intR w' w2.heap.size 3 s.2 (stk e x y s.1) []) (fun s => n - s.1) (0, _) ⟨rfl, rfl, rfl, rfl, rfl, rfl, trivial⟩ ⟨hal3.kp, Nat.zero_le _, by unfold stk; exact ho⟩ ?_
  clear ho hal3 hal2 hal1
  rintro ⟨k, va⟩ wa ⟨hka, hkn, hoa⟩
  dsimp only at hkn hoa ⊢
  have hlk : ((stk e x y k).length : Int) = exD e k := stk_len fun i hi => hall i (by omega)
  have hd1 := exD_le e k
  obtain ⟨As, ns, cs, rfl, hns, hnc⟩ := hoa.split
  repeat refine zz ?_
  refine W_cond rfl (fun hc => ?_) (fun hc => ?_)
  · have hkl : k < n := by simp at hc; omega
    obtain ⟨hA, vl, ul, f1, f2, hcell, hvl, hul, _⟩ := node_get (he.keep hka) (i := (k : Int)) (by omega) (by omega)
    obtain ⟨hop, hdp, how, hon⟩ := exOk_op (hall k (by omega))
    have hsk := stk_succ e x y k
    have hsc := stkCmp (e := e) x y (n := k) fun i hi => hall i (by omega)
    generalize stk e x y k = S at *
    have ov := hvl.oneCell
    have ou := hul.oneCell
    have hkz := hka.size_le
    repeat refine zz ?_
    refine o_alloc rfl rfl ?_
    intro bR wR halR
    have hbR0 := halR.blk
    repeat refine zz ?_
    refine o_storeS (b := bR) (off := 0) rfl rfl rfl rfl (by repeat (first | exact ones_nil | refine ones_cons (by first | rfl | assumption) ?_)) rfl hbR0 (by simp) ?_
    intro wS huS
    have hbR : Blk wS bR _ [.int .i64 (gi e (k : Int)).op, .int .i64 (gi e (k : Int)).wish.kind, .int .i64 (gi e (k : Int)).wish.field, .int .i64 (gi e (k : Int)).wish.value, vl, ul] := huS.blk
    have hkS := halR.kp.upd huS (Nat.le_of_eq halR.b_eq.symm)
    have hRe := halR.b_eq
    clear hbR0 huS halR
    replace hka := hka.keep hkS
    replace hoa := hoa.keep hkS
    replace hvl := hvl.keep hkS
    replace hul := hul.keep hkS
    replace hx := hx.keep hka
    replace hy := hy.keep hka
    replace hb1 := hb1.keep hka
    replace hb2 := hb2.keep hka
    clear hcell
    obtain ⟨fo, hso, hfo⟩ := hoa.sl (by decide)
    repeat refine zz ?_
    refine W_cond rfl (fun h0 => ?_) (fun h0 => ?_)
    · simp only [decide_eq_true_eq] at h0
      have hw := how h0
      rw [if_pos h0] at hsk
      repeat refine zz ?_
      refine o_call rfl rfl rfl (impl_CompareItems_ok hvl hul hx hy hw ix iy) ?_
      rintro _ w4 ⟨rfl, hk4⟩
      replace hoa := hoa.keep hk4
      replace hka := hka.keep hk4
      repeat refine zz ?_
      refine o_buildSlice rfl rfl rfl rfl rfl (by simp [Value.cells]) (by omega) ?_
      intro b5 w5 hal5
      have hkz := hka.size_le
      have hz5 := hal5.size
      replace hoa := hoa.keep hal5.kp
      replace hka := hka.keep hal5.kp
      repeat refine zz ?_
      refine o_appendF (R := intR) (M := _) (gi := []) rfl rfl rfl rfl rfl (by decide) hoa (Blk.src (xs := [itemCmp (gi e (k : Int)).wish x y]) hal5.blk (Rows.ints _ _)) rfl (Fresh.nil _ _) (fun b hb => by simp at hb) (fun b hb => (hoa.lt hb).2) (fun b hb => by simp at hb) (by simp only [List.length_cons, List.length_nil]; omega) (by simp only [List.length_cons, List.length_nil]; omega) (by omega) ?_
      intro v6 w6 ho6 hb6 hg6
      have hk6 : Keep w2 w6 := hka.grown hg6 (fun b hb => (hoa.lt hb).1)
      repeat refine zz ?_
      exact ⟨(k + 1, v6), ⟨rfl, rfl, rfl, rfl, rfl, rfl, trivial⟩, ⟨hk6, by dsimp only; omega, by dsimp only; rw [hsk]; exact ho6⟩, by dsimp only; omega⟩
    simp only [decide_eq_false_iff_not] at h0
    rw [if_neg h0] at hsk
    have hSn : S ≠ [] := fun e => by
      rw [e] at hlk
      simp only [List.length_nil] at hlk
      unfold opnds at hdp
      rw [if_neg h0] at hdp
      split at hdp <;> omega
    obtain ⟨bo, cap, cl, hve, hbo, hbl, hcl, hcap, hcg, hst⟩ := hoa.stI hSn
    simp only [Value.slice.injEq] at hve
    obtain ⟨rfl, rfl, rfl⟩ := hve
    have hpos : 0 < S.length := List.length_pos_iff.2 hSn
    repeat refine zz ?_
    refine W_cond rfl (fun h3 => ?_) (fun h3 => ?_)
    · simp only [decide_eq_true_eq] at h3
      rw [if_pos h3] at hsk
      have hci : Cell wS (ea (some ⟨bo, 0, none⟩) 1 ((S.length : Int) - 1)) (.int .i64 (gi S ((S.length - 1 : Nat) : Int))) := by
        rw [show (S.length : Int) - 1 = ((S.length - 1 : Nat) : Int) by omega, ea_blk]
        exact hbl.cell (by rw [Nat.zero_add, Nat.mul_one]; exact hcg _ (by omega))
      have hcm := hsc _ (gi_in (xs := S) (i := S.length - 1) (by omega))
      repeat refine zz ?_
      refine W_cond rfl (fun h2 => ?_) (fun h2 => ?_)
      · simp only [decide_eq_true_eq] at h2
        have hdu : dual (gi S ((S.length - 1 : Nat) : Int)) = - gi S ((S.length - 1 : Nat) : Int) := by rw [dual, if_neg h2]
        repeat refine zz ?_
        refine WL_pure rfl rfl (o_neg rfl (by rcases hcm with h | h | h | h <;> rw [h] <;> omega)) ?_
        repeat refine zz ?_
        refine o_store1 (off := S.length - 1) rfl rfl (by rw [show (S.length : Int) - 1 = ((S.length - 1 : Nat) : Int) by omega, ea_blk]; simp) rfl rfl hbl (by omega) ?_
        intro w4 hu4
        have ho4 := hst w4 (S.length - 1) _ (by omega) hu4
        repeat refine zz ?_
        exact ⟨(k + 1, _), ⟨rfl, rfl, rfl, rfl, rfl, rfl, trivial⟩, ⟨hka.upd hu4 hbo, by dsimp only; omega, by dsimp only; rw [hsk, hdu]; exact ho4⟩, by dsimp only; omega⟩
      · simp only [decide_eq_false_iff_not, Classical.not_not] at h2
        have hdu : dual (gi S ((S.length - 1 : Nat) : Int)) = gi S ((S.length - 1 : Nat) : Int) := by rw [dual, if_pos h2, h2]
        repeat refine zz ?_
        exact ⟨(k + 1, _), ⟨rfl, rfl, rfl, rfl, rfl, rfl, trivial⟩, ⟨hka, by dsimp only; omega, by dsimp only; rw [hsk, hdu, set_gi (by omega)]; exact hoa⟩, by dsimp only; omega⟩
    simp only [decide_eq_false_iff_not] at h3
    rw [if_neg h3] at hsk
    have hd2 : opnds (gi e (k : Int)).op = 2 := by rw [opnds, if_neg h0, if_neg h3]
    have hS2 : 2 ≤ S.length := by omega
    have e1 : (S.length : Int) - 2 = ((S.length - 2 : Nat) : Int) := by omega
    have e2 : (S.length : Int) - 1 = ((S.length - 1 : Nat) : Int) := by omega
    have hp1 : Cell wS (ea (some ⟨bo, 0, none⟩) 1 ((S.length : Int) - 2)) (.int .i64 (gi S ((S.length - 2 : Nat) : Int))) := by
      rw [e1, ea_blk]
      exact hbl.cell (by rw [Nat.zero_add, Nat.mul_one]; exact hcg _ (by omega))
    have hp2 : Cell wS (ea (some ⟨bo, 0, none⟩) 1 ((S.length : Int) - 1)) (.int .i64 (gi S ((S.length - 1 : Nat) : Int))) := by
      rw [e2, ea_blk]
      exact hbl.cell (by rw [Nat.zero_add, Nat.mul_one]; exact hcg _ (by omega))
    have hm1 := hsc _ (gi_in (xs := S) (i := S.length - 2) (by omega))
    have hm2 := hsc _ (gi_in (xs := S) (i := S.length - 1) (by omega))
    have hAs : (some (⟨bo, 0, none⟩ : Addr)).isSome = true := rfl
    repeat refine zz ?_
    refine W_late (Keep wS) [17] (by kernel_rfl) (Keep.drew wS) ?_
    first|refine e_o 0 ?_|refine e_a 0 ?_|refine e_s 0 ?_|refine e_n 0 ?_|refine e_i 0 ?_|refine e_f 0 ?_|refine e_b 0 ?_|refine e_d 0 ?_|refine e_l1 0 ?_|refine e_l2 0 ?_|refine e_l3 0 ?_|refine e_l4 0 ?_|refine e_l5 0 ?_|refine e_l6 0 ?_|refine e_l7 0 ?_|refine e_l8 0 ?_|refine e_l9 0 ?_|refine e_g 0 ?_|refine e_q 0 ?_|refine e_e 0 ?_|refine e_j 0 ?_
    first|refine e_o 1 ?_|refine e_a 1 ?_|refine e_s 1 ?_|refine e_n 1 ?_|refine e_i 1 ?_|refine e_f 1 ?_|refine e_b 1 ?_|refine e_d 1 ?_|refine e_l1 1 ?_|refine e_l2 1 ?_|refine e_l3 1 ?_|refine e_l4 1 ?_|refine e_l5 1 ?_|refine e_l6 1 ?_|refine e_l7 1 ?_|refine e_l8 1 ?_|refine e_l9 1 ?_|refine e_g 1 ?_|refine e_q 1 ?_|refine e_e 1 ?_|refine e_j 1 ?_
    first|refine e_o 2 ?_|refine e_a 2 ?_|refine e_s 2 ?_|refine e_n 2 ?_|refine e_i 2 ?_|refine e_f 2 ?_|refine e_b 2 ?_|refine e_d 2 ?_|refine e_l1 2 ?_|refine e_l2 2 ?_|refine e_l3 2 ?_|refine e_l4 2 ?_|refine e_l5 2 ?_|refine e_l6 2 ?_|refine e_l7 2 ?_|refine e_l8 2 ?_|refine e_l9 2 ?_|refine e_g 2 ?_|refine e_q 2 ?_|refine e_e 2 ?_|refine e_j 2 ?_
    first|refine e_o 3 ?_|refine e_a 3 ?_|refine e_s 3 ?_|refine e_n 3 ?_|refine e_i 3 ?_|refine e_f 3 ?_|refine e_b 3 ?_|refine e_d 3 ?_|refine e_l1 3 ?_|refine e_l2 3 ?_|refine e_l3 3 ?_|refine e_l4 3 ?_|refine e_l5 3 ?_|refine e_l6 3 ?_|refine e_l7 3 ?_|refine e_l8 3 ?_|refine e_l9 3 ?_|refine e_g 3 ?_|refine e_q 3 ?_|refine e_e 3 ?_|refine e_j 3 ?_
    first|refine e_o 4 ?_|refine e_a 4 ?_|refine e_s 4 ?_|refine e_n 4 ?_|refine e_i 4 ?_|refine e_f 4 ?_|refine e_b 4 ?_|refine e_d 4 ?_|refine e_l1 4 ?_|refine e_l2 4 ?_|refine e_l3 4 ?_|refine e_l4 4 ?_|refine e_l5 4 ?_|refine e_l6 4 ?_|refine e_l7 4 ?_|refine e_l8 4 ?_|refine e_l9 4 ?_|refine e_g 4 ?_|refine e_q 4 ?_|refine e_e 4 ?_|refine e_j 4 ?_
    first|refine e_o 5 ?_|refine e_a 5 ?_|refine e_s 5 ?_|refine e_n 5 ?_|refine e_i 5 ?_|refine e_f 5 ?_|refine e_b 5 ?_|refine e_d 5 ?_|refine e_l1 5 ?_|refine e_l2 5 ?_|refine e_l3 5 ?_|refine e_l4 5 ?_|refine e_l5 5 ?_|refine e_l6 5 ?_|refine e_l7 5 ?_|refine e_l8 5 ?_|refine e_l9 5 ?_|refine e_g 5 ?_|refine e_q 5 ?_|refine e_e 5 ?_|refine e_j 5 ?_
    first|refine e_o 6 ?_|refine e_a 6 ?_|refine e_s 6 ?_|refine e_n 6 ?_|refine e_i 6 ?_|refine e_f 6 ?_|refine e_b 6 ?_|refine e_d 6 ?_|refine e_l1 6 ?_|refine e_l2 6 ?_|refine e_l3 6 ?_|refine e_l4 6 ?_|refine e_l5 6 ?_|refine e_l6 6 ?_|refine e_l7 6 ?_|refine e_l8 6 ?_|refine e_l9 6 ?_|refine e_g 6 ?_|refine e_q 6 ?_|refine e_e 6 ?_|refine e_j 6 ?_
    first|refine e_o 7 ?_|refine e_a 7 ?_|refine e_s 7 ?_|refine e_n 7 ?_|refine e_i 7 ?_|refine e_f 7 ?_|refine e_b 7 ?_|refine e_d 7 ?_|refine e_l1 7 ?_|refine e_l2 7 ?_|refine e_l3 7 ?_|refine e_l4 7 ?_|refine e_l5 7 ?_|refine e_l6 7 ?_|refine e_l7 7 ?_|refine e_l8 7 ?_|refine e_l9 7 ?_|refine e_g 7 ?_|refine e_q 7 ?_|refine e_e 7 ?_|refine e_j 7 ?_
    first|refine e_o 8 ?_|refine e_a 8 ?_|refine e_s 8 ?_|refine e_n 8 ?_|refine e_i 8 ?_|refine e_f 8 ?_|refine e_b 8 ?_|refine e_d 8 ?_|refine e_l1 8 ?_|refine e_l2 8 ?_|refine e_l3 8 ?_|refine e_l4 8 ?_|refine e_l5 8 ?_|refine e_l6 8 ?_|refine e_l7 8 ?_|refine e_l8 8 ?_|refine e_l9 8 ?_|refine e_g 8 ?_|refine e_q 8 ?_|refine e_e 8 ?_|refine e_j 8 ?_
    first|refine e_o 9 ?_|refine e_a 9 ?_|refine e_s 9 ?_|refine e_n 9 ?_|refine e_i 9 ?_|refine e_f 9 ?_|refine e_b 9 ?_|refine e_d 9 ?_|refine e_l1 9 ?_|refine e_l2 9 ?_|refine e_l3 9 ?_|refine e_l4 9 ?_|refine e_l5 9 ?_|refine e_l6 9 ?_|refine e_l7 9 ?_|refine e_l8 9 ?_|refine e_l9 9 ?_|refine e_g 9 ?_|refine e_q 9 ?_|refine e_e 9 ?_|refine e_j 9 ?_
    first|refine e_o 10 ?_|refine e_a 10 ?_|refine e_s 10 ?_|refine e_n 10 ?_|refine e_i 10 ?_|refine e_f 10 ?_|refine e_b 10 ?_|refine e_d 10 ?_|refine e_l1 10 ?_|refine e_l2 10 ?_|refine e_l3 10 ?_|refine e_l4 10 ?_|refine e_l5 10 ?_|refine e_l6 10 ?_|refine e_l7 10 ?_|refine e_l8 10 ?_|refine e_l9 10 ?_|refine e_g 10 ?_|refine e_q 10 ?_|refine e_e 10 ?_|refine e_j 10 ?_
    first|refine e_o 11 ?_|refine e_a 11 ?_|refine e_s 11 ?_|refine e_n 11 ?_|refine e_i 11 ?_|refine e_f 11 ?_|refine e_b 11 ?_|refine e_d 11 ?_|refine e_l1 11 ?_|refine e_l2 11 ?_|refine e_l3 11 ?_|refine e_l4 11 ?_|refine e_l5 11 ?_|refine e_l6 11 ?_|refine e_l7 11 ?_|refine e_l8 11 ?_|refine e_l9 11 ?_|refine e_g 11 ?_|refine e_q 11 ?_|refine e_e 11 ?_|refine e_j 11 ?_
    first|refine e_o 12 ?_|refine e_a 12 ?_|refine e_s 12 ?_|refine e_n 12 ?_|refine e_i 12 ?_|refine e_f 12 ?_|refine e_b 12 ?_|refine e_d 12 ?_|refine e_l1 12 ?_|refine e_l2 12 ?_|refine e_l3 12 ?_|refine e_l4 12 ?_|refine e_l5 12 ?_|refine e_l6 12 ?_|refine e_l7 12 ?_|refine e_l8 12 ?_|refine e_l9 12 ?_|refine e_g 12 ?_|refine e_q 12 ?_|refine e_e 12 ?_|refine e_j 12 ?_
    first|refine e_o 13 ?_|refine e_a 13 ?_|refine e_s 13 ?_|refine e_n 13 ?_|refine e_i 13 ?_|refine e_f 13 ?_|refine e_b 13 ?_|refine e_d 13 ?_|refine e_l1 13 ?_|refine e_l2 13 ?_|refine e_l3 13 ?_|refine e_l4 13 ?_|refine e_l5 13 ?_|refine e_l6 13 ?_|refine e_l7 13 ?_|refine e_l8 13 ?_|refine e_l9 13 ?_|refine e_g 13 ?_|refine e_q 13 ?_|refine e_e 13 ?_|refine e_j 13 ?_
    first|refine e_o 14 ?_|refine e_a 14 ?_|refine e_s 14 ?_|refine e_n 14 ?_|refine e_i 14 ?_|refine e_f 14 ?_|refine e_b 14 ?_|refine e_d 14 ?_|refine e_l1 14 ?_|refine e_l2 14 ?_|refine e_l3 14 ?_|refine e_l4 14 ?_|refine e_l5 14 ?_|refine e_l6 14 ?_|refine e_l7 14 ?_|refine e_l8 14 ?_|refine e_l9 14 ?_|refine e_g 14 ?_|refine e_q 14 ?_|refine e_e 14 ?_|refine e_j 14 ?_
    have kd : Keep wS wS.drew := Keep.drew wS
    have hbd := hbl.keep kd
    refine WE_one 15 (by kernel_rfl) rfl ?_
    refine o_call rfl rfl rfl (combined_ok hm1 hm2) ?_
    rintro _ _ ⟨rfl, rfl⟩
    refine WL_end ⟨kd, ?_⟩
    first|refine e_o 16 ?_|refine e_a 16 ?_|refine e_s 16 ?_|refine e_n 16 ?_|refine e_i 16 ?_|refine e_f 16 ?_|refine e_b 16 ?_|refine e_d 16 ?_|refine e_l1 16 ?_|refine e_l2 16 ?_|refine e_l3 16 ?_|refine e_l4 16 ?_|refine e_l5 16 ?_|refine e_l6 16 ?_|refine e_l7 16 ?_|refine e_l8 16 ?_|refine e_l9 16 ?_|refine e_g 16 ?_|refine e_q 16 ?_|refine e_e 16 ?_|refine e_j 16 ?_
    refine WE_last 17 (by kernel_rfl) rfl (by kernel_rfl) ?_
    refine o_store1 (off := S.length - 2) rfl rfl (by rw [e1, ea_blk]; simp) rfl rfl hbd (by omega) ?_
    intro w4 hu4
    have hoD := hoa.keep kd
    obtain ⟨bo', cap', cl', hve', hbo', hbl', hcl', hcap', hcg', hst'⟩ := hoD.stI hSn
    simp only [Value.slice.injEq, Option.some.injEq, Addr.mk.injEq, and_true] at hve'
    obtain ⟨rfl, _, rfl⟩ := hve'
    have hce : cl = cl' := hbd.inj hbl'
    subst hce
    have ho4 := hst' w4 (S.length - 2) _ (by omega) hu4
    refine WL_end ?_
    refine WE_done (by kernel_rfl) ?_
    repeat refine zz ?_
    refine WL_pure rfl rfl (o_slice_hi (h := S.length - 1) rfl (find_int rfl (by omega)) (by omega)) ?_
    repeat refine zz ?_
    have hoc := ho4.cutI (k := S.length - 1) (by simp)
    rw [stk_bin S _ hS2] at hoc
    exact ⟨(k + 1, _), ⟨rfl, rfl, rfl, rfl, rfl, rfl, trivial⟩, ⟨(hka.keep kd).upd hu4 hbo, by dsimp only; omega, by dsimp only; rw [hsk]; exact hoc⟩, by dsimp only; omega⟩
  · simp at hc
    obtain rfl : k = n := by omega
    obtain ⟨fo, hso, hfo⟩ := hoa.sl (by decide)
    have hl1 : (stk e x y k).length = 1 := by rw [hnx] at hlk ⊢; omega
    obtain ⟨hAs, hp1⟩ := hso.getI (i := 0) (by omega) (by omega)
    repeat refine zz ?_
    exact ret1 rfl rfl ⟨by rw [cmpE, ← hnx], hk.keep hka⟩
end Go.E

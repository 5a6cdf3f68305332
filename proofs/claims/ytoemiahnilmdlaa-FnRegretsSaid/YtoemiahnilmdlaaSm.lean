/-
  Plain laws: the least set of numbers with a property, found in the order of the sets, and by trying all of them. No program here. Conditions: as stated.
-/
import Derived.Test.YtoemiahnilmdlaaPure
set_option linter.unusedVariables false
set_option linter.unusedSimpArgs false
namespace Go.E
open Go
/-- by the first number that differs -/
def lexL : List Int → List Int → Bool
  | x :: a, y :: b => if x = y then lexL a b else decide (x < y)
  | _, _ => false
def lessL (a b : List Int) : Bool := if a.length = b.length then lexL a b else decide (a.length < b.length)
theorem lexL_irr : ∀ a : List Int, lexL a a = false
  | [] => rfl
  | x :: a => by rw [lexL, if_pos rfl, lexL_irr a]
theorem lexL_tri : ∀ a b : List Int, a.length = b.length → lexL a b = false → lexL b a = false → a = b
  | [], [], _, _, _ => rfl
  | [], _ :: _, h, _, _ => by simp at h
  | _ :: _, [], h, _, _ => by simp at h
  | x :: a, y :: b, h, h1, h2 => by
    simp only [lexL] at h1 h2
    by_cases e : x = y
    · subst e
      rw [if_pos rfl] at h1 h2
      rw [lexL_tri a b (by simpa using h) h1 h2]
    · rw [if_neg e] at h1
      rw [if_neg fun e' => e e'.symm] at h2
      simp at h1 h2; omega
theorem lexL_trans : ∀ a b c : List Int, lexL a b = true → lexL b c = true → lexL a c = true
  | [], _, _, h, _ => by simp [lexL] at h
  | _ :: _, [], _, h, _ => by simp [lexL] at h
  | _ :: _, _ :: _, [], _, h => by simp [lexL] at h
  | x :: a, y :: b, z :: c, h1, h2 => by
    simp only [lexL] at h1 h2 ⊢
    by_cases e : x = y
    · subst e
      rw [if_pos rfl] at h1
      by_cases e2 : x = z
      · subst e2
        rw [if_pos rfl] at h2 ⊢
        exact lexL_trans a b c h1 h2
      · rw [if_neg e2] at h2 ⊢; exact h2
    · rw [if_neg e] at h1
      by_cases e2 : y = z
      · subst e2
        rw [if_neg e]; exact h1
      · rw [if_neg e2] at h2
        simp at h1 h2
        rw [if_neg (by omega)]; simp; omega
theorem lessL_tri {a b : List Int} (h1 : lessL a b = false) (h2 : lessL b a = false) : a = b := by
  unfold lessL at h1 h2
  by_cases h : a.length = b.length
  · rw [if_pos h] at h1; rw [if_pos h.symm] at h2
    exact lexL_tri a b h h1 h2
  · rw [if_neg h] at h1; rw [if_neg fun e => h e.symm] at h2
    simp at h1 h2; omega
theorem lessL_trans {a b c : List Int} (h1 : lessL a b = true) (h2 : lessL b c = true) : lessL a c = true := by
  unfold lessL at *
  by_cases h : a.length = b.length
  · rw [if_pos h] at h1
    by_cases k : b.length = c.length
    · rw [if_pos k] at h2
      rw [if_pos (h.trans k)]
      exact lexL_trans a b c h1 h2
    · rw [if_neg k] at h2
      rw [if_neg (by omega)]; simp at h2 ⊢; omega
  · rw [if_neg h] at h1
    simp at h1
    by_cases k : b.length = c.length
    · rw [if_neg (by omega)]; simp; omega
    · rw [if_neg k] at h2
      simp at h2
      rw [if_neg (by omega)]; simp; omega
/-- the first set, in the order of the sets, of r more numbers -/
def chs (ok : List Int → Bool) : List Int → Nat → List Int → Option (List Int)
  | [], 0, set => if ok set then some set else none
  | [], _ + 1, _ => none
  | _ :: _, 0, set => if ok set then some set else none
  | x :: rest, r + 1, set => match chs ok rest r (set ++ [x]) with
    | some t => some t
    | none => chs ok rest (r + 1) set
theorem chs_zero (ok : List Int → Bool) (rest set : List Int) : chs ok rest 0 set = if ok set then some set else none := by cases rest <;> rfl
theorem chs_nil (ok : List Int → Bool) (r : Nat) (set : List Int) : chs ok [] (r + 1) set = none := rfl
theorem chs_cons (ok : List Int → Bool) (x : Int) (rest : List Int) (r : Nat) (set : List Int) : chs ok (x :: rest) (r + 1) set = match chs ok rest r (set ++ [x]) with
    | some t => some t
    | none => chs ok rest (r + 1) set := rfl
theorem chs_hit {ok : List Int → Bool} {x : Int} {rest : List Int} {r : Nat} {set t : List Int} (h : chs ok rest r (set ++ [x]) = some t) : chs ok (x :: rest) (r + 1) set = some t := by rw [chs_cons, h]
theorem chs_miss {ok : List Int → Bool} {x : Int} {rest : List Int} {r : Nat} {set : List Int} (h : chs ok rest r (set ++ [x]) = none) : chs ok (x :: rest) (r + 1) set = chs ok rest (r + 1) set := by rw [chs_cons, h]
def ChsOk (ok : List Int → Bool) (rest : List Int) (r : Nat) (set : List Int) : Option (List Int) → Prop
  | none => ∀ t, t.Sublist rest → t.length = r → ok (set ++ t) = false
  | some s => ∃ t, s = set ++ t ∧ t.Sublist rest ∧ t.length = r ∧ ok s = true ∧ ∀ t', t'.Sublist rest → t'.length = r → ok (set ++ t') = true → lexL t' t = false
theorem chs_ok (ok : List Int → Bool) : ∀ (rest : List Int), rest.Pairwise (· < ·) → ∀ (r : Nat) (set : List Int), ChsOk ok rest r set (chs ok rest r set) := by
  intro rest
  have zero : ∀ (rest set : List Int), ChsOk ok rest 0 set (if ok set then some set else none) := by
    intro rest set
    cases h : ok set with
    | true =>
      rw [if_pos rfl]
      refine ⟨[], by simp, List.nil_sublist _, rfl, h, fun t' _ hl _ => ?_⟩
      have : t' = [] := by simpa using hl
      subst this; rfl
    | false =>
      rw [if_neg (by simp)]
      intro t _ hl
      have : t = [] := by simpa using hl
      subst this; simpa using h
  induction rest with
  | nil =>
    intro _ r set
    cases r with
    | zero => exact zero [] set
    | succ r =>
      intro t ht hl
      have : t = [] := by simpa using ht
      subst this; simp at hl
  | cons x rest ih =>
    intro hp r set
    rw [List.pairwise_cons] at hp
    cases r with
    | zero => exact zero (x :: rest) set
    | succ r =>
      have h1 := ih hp.2 r (set ++ [x])
      have h2 := ih hp.2 (r + 1) set
      cases hc : chs ok rest r (set ++ [x]) with
      | some s =>
        rw [chs_hit hc]
        rw [hc] at h1
        obtain ⟨t, rfl, hs, hl, hok, hmin⟩ := h1
        refine ⟨x :: t, by simp, hs.cons_cons x, by simp [hl], hok, fun t' hs' hl' hok' => ?_⟩
        cases hs' with
        | cons _ hs' =>
          cases t' with
          | nil => simp at hl'
          | cons y t'' =>
            have hy : y ∈ rest := hs'.subset List.mem_cons_self
            have := hp.1 y hy
            rw [lexL, if_neg (by omega)]; simp; omega
        | cons_cons _ hs' =>
          rename_i t''
          rw [lexL, if_pos rfl]
          exact hmin t'' hs' (by simpa using hl') (by simpa using hok')
      | none =>
        rw [chs_miss hc]
        rw [hc] at h1
        cases hd : chs ok rest (r + 1) set with
        | none =>
          rw [hd] at h2
          intro t' hs' hl'
          cases hs' with
          | cons _ hs' => exact h2 t' hs' hl'
          | cons_cons _ hs' => rename_i t''; have := h1 t'' hs' (by simpa using hl'); simpa using this
        | some s =>
          rw [hd] at h2
          obtain ⟨t, rfl, hs, hl, hok, hmin⟩ := h2
          refine ⟨t, rfl, hs.cons x, hl, hok, fun t' hs' hl' hok' => ?_⟩
          cases hs' with
          | cons _ hs' => exact hmin t' hs' hl' hok'
          | cons_cons _ hs' =>
            rename_i t''
            have := h1 t'' hs' (by simpa using hl')
            rw [show set ++ [x] ++ t'' = set ++ x :: t'' by simp] at this
            rw [this] at hok'; cases hok'
/-- set sizes from s on -/
def smallF (ok : List Int → Bool) (ids : List Int) : Nat → Nat → Option (List Int)
  | 0, _ => none
  | k + 1, s => match chs ok ids s [] with
    | some t => some t
    | none => smallF ok ids k (s + 1)
theorem smallF_hit {ok : List Int → Bool} {ids : List Int} {k s : Nat} {t : List Int} (h : chs ok ids s [] = some t) : smallF ok ids (k + 1) s = some t := by rw [smallF, h]
theorem smallF_miss {ok : List Int → Bool} {ids : List Int} {k s : Nat} (h : chs ok ids s [] = none) : smallF ok ids (k + 1) s = smallF ok ids k (s + 1) := by rw [smallF, h]
/-- the least set with the property -/
def IsMin (ok : List Int → Bool) (ids : List Int) : Option (List Int) → Prop
  | none => ∀ t, t.Sublist ids → ok t = false
  | some s => s.Sublist ids ∧ ok s = true ∧ ∀ t, t.Sublist ids → ok t = true → lessL t s = false
theorem isMin_one {ok : List Int → Bool} {ids : List Int} {a b : Option (List Int)} (ha : IsMin ok ids a) (hb : IsMin ok ids b) : a = b := by
  cases a with
  | none =>
    cases b with
    | none => rfl
    | some s => have := ha s hb.1; rw [hb.2.1] at this; cases this
  | some s =>
    cases b with
    | none => have := hb s ha.1; rw [ha.2.1] at this; cases this
    | some t => rw [lessL_tri (hb.2.2 s ha.1 ha.2.1) (ha.2.2 t hb.1 hb.2.1)]
theorem smallF_ok (ok : List Int → Bool) {ids : List Int} (hp : ids.Pairwise (· < ·)) : ∀ (k s : Nat), ids.length < s + k → (∀ t, t.Sublist ids → t.length < s → ok t = false) → IsMin ok ids (smallF ok ids k s) := by
  intro k
  induction k with
  | zero =>
    intro s hn hno t ht
    exact hno t ht (by have := ht.length_le; omega)
  | succ k ih =>
    intro s hn hno
    have h1 := chs_ok ok ids hp s []
    cases hc : chs ok ids s [] with
    | none =>
      rw [smallF_miss hc]
      rw [hc] at h1
      refine ih (s + 1) (by omega) fun t ht hl => ?_
      rcases Nat.lt_or_ge t.length s with h | h
      · exact hno t ht h
      · simpa using h1 t ht (by omega)
    | some t =>
      rw [smallF_hit hc]
      rw [hc] at h1
      obtain ⟨u, hu, hs, hl, hok, hmin⟩ := h1
      rw [List.nil_append] at hu
      rw [hu] at hok ⊢
      refine ⟨hs, hok, fun t ht hokt => ?_⟩
      unfold lessL
      by_cases he : t.length = u.length
      · rw [if_pos he]; exact hmin t ht (by omega) (by rwa [List.nil_append])
      · rw [if_neg he]
        rcases Nat.lt_or_ge t.length s with h | h
        · rw [hno t ht h] at hokt; cases hokt
        · simp; omega
/-- the numbers among the first n that a mask names -/
def setN (ids : List Int) (mask : Nat) : Nat → List Int
  | 0 => []
  | n + 1 => setN ids mask n ++ (if mask.testBit n then [gi ids (n : Int)] else [])
theorem setN_succ (ids : List Int) (mask n : Nat) : setN ids mask (n + 1) = setN ids mask n ++ (if mask.testBit n then [gi ids (n : Int)] else []) := rfl
theorem setN_len (ids : List Int) (mask n : Nat) : (setN ids mask n).length ≤ n := by
  induction n with
  | zero => simp [setN]
  | succ n ih => rw [setN_succ, List.length_append]; split <;> simp <;> omega
theorem setN_sub {ids : List Int} (mask : Nat) : ∀ n : Nat, n ≤ ids.length → (setN ids mask n).Sublist (ids.take n)
  | 0, _ => by simp [setN]
  | n + 1, h => by
    rw [setN_succ, take_gi (by omega)]
    refine List.Sublist.append (setN_sub mask n (by omega)) ?_
    split
    · exact List.Sublist.refl _
    · exact List.nil_sublist _
theorem setN_congr {ids : List Int} {m m' : Nat} : ∀ n : Nat, (∀ i, i < n → m.testBit i = m'.testBit i) → setN ids m n = setN ids m' n
  | 0, _ => rfl
  | n + 1, h => by rw [setN_succ, setN_succ, setN_congr n fun i hi => h i (by omega), h n (by omega)]
theorem setN_all {ids : List Int} : ∀ n : Nat, n ≤ ids.length → ∀ t : List Int, t.Sublist (ids.take n) → ∃ m, m < 2 ^ n ∧ setN ids m n = t
  | 0, _, t, ht => ⟨0, by simp, by simp at ht; subst ht; rfl⟩
  | n + 1, h, t, ht => by
    rw [take_gi (by omega), List.sublist_append_iff] at ht
    obtain ⟨t1, t2, rfl, h1, h2⟩ := ht
    obtain ⟨m, hm, rfl⟩ := setN_all n (by omega) t1 h1
    have hb : m.testBit n = false := Nat.testBit_lt_two_pow hm
    cases h2 with
    | cons _ h2 =>
      obtain rfl := List.sublist_nil.1 h2
      exact ⟨m, by rw [Nat.pow_succ]; omega, by rw [setN_succ, hb]; simp⟩
    | cons_cons _ h2 =>
      obtain rfl := List.sublist_nil.1 h2
      refine ⟨2 ^ n + m, by rw [Nat.pow_succ]; omega, ?_⟩
      rw [setN_succ, Nat.testBit_two_pow_add_eq, hb, setN_congr n fun i hi => Nat.testBit_two_pow_add_gt hi m]
      simp
/-- the best of the first masks -/
def bestM (ok : List Int → Bool) (ids : List Int) : Nat → Option (List Int)
  | 0 => none
  | m + 1 => match bestM ok ids m with
    | none => if ok (setN ids m ids.length) then some (setN ids m ids.length) else none
    | some b => if lessL (setN ids m ids.length) b then (if ok (setN ids m ids.length) then some (setN ids m ids.length) else some b) else some b
def BmOk (ok : List Int → Bool) (ids : List Int) (m : Nat) : Option (List Int) → Prop
  | none => ∀ k, k < m → ok (setN ids k ids.length) = false
  | some s => (∃ k, s = setN ids k ids.length) ∧ ok s = true ∧ ∀ k, k < m → ok (setN ids k ids.length) = true → lessL (setN ids k ids.length) s = false
theorem lessL_irr (a : List Int) : lessL a a = false := by rw [lessL, if_pos rfl, lexL_irr]
theorem bestM_ok (ok : List Int → Bool) (ids : List Int) : ∀ m : Nat, BmOk ok ids m (bestM ok ids m) := by
  intro m
  induction m with
  | zero => intro k hk; omega
  | succ m ih =>
    have step : ∀ k, k < m + 1 → k < m ∨ k = m := fun k hk => by omega
    unfold bestM
    generalize hs : setN ids m ids.length = s
    cases hb : bestM ok ids m with
    | none =>
      rw [hb] at ih
      dsimp only
      cases ho : ok s with
      | true =>
        rw [if_pos rfl]
        refine ⟨⟨m, hs.symm⟩, ho, fun k hk hok => ?_⟩
        rcases step k hk with h | rfl
        · rw [ih k h] at hok; cases hok
        · rw [hs]; exact lessL_irr _
      | false =>
        rw [if_neg (by simp)]
        intro k hk
        rcases step k hk with h | rfl
        · exact ih k h
        · rw [hs]; exact ho
    | some b =>
      rw [hb] at ih
      obtain ⟨h1, h2, h3⟩ := ih
      dsimp only
      cases hl : lessL s b with
      | false =>
        rw [if_neg (by simp)]
        refine ⟨h1, h2, fun k hk hok => ?_⟩
        rcases step k hk with h | rfl
        · exact h3 k h hok
        · rw [hs]; exact hl
      | true =>
        rw [if_pos rfl]
        cases ho : ok s with
        | false =>
          rw [if_neg (by simp)]
          refine ⟨h1, h2, fun k hk hok => ?_⟩
          rcases step k hk with h | rfl
          · exact h3 k h hok
          · rw [hs, ho] at hok; cases hok
        | true =>
          rw [if_pos rfl]
          refine ⟨⟨m, hs.symm⟩, ho, fun k hk hok => ?_⟩
          rcases step k hk with h | rfl
          · cases hx : lessL (setN ids k ids.length) s with
            | false => rfl
            | true => rw [← h3 k h hok, lessL_trans hx hl]
          · rw [hs]; exact lessL_irr _
theorem bestM_min (ok : List Int → Bool) (ids : List Int) : IsMin ok ids (bestM ok ids (2 ^ ids.length)) := by
  have h := bestM_ok ok ids (2 ^ ids.length)
  have sub : ∀ k, (setN ids k ids.length).Sublist ids := fun k => by
    have := setN_sub (ids := ids) k ids.length (Nat.le_refl _)
    rwa [List.take_length] at this
  have all : ∀ t : List Int, t.Sublist ids → ∃ k, k < 2 ^ ids.length ∧ setN ids k ids.length = t := fun t ht => setN_all ids.length (Nat.le_refl _) t (by rwa [List.take_length])
  cases hb : bestM ok ids (2 ^ ids.length) with
  | none =>
    rw [hb] at h
    intro t ht
    obtain ⟨k, hk, rfl⟩ := all t ht
    exact h k hk
  | some s =>
    rw [hb] at h
    obtain ⟨⟨k, rfl⟩, h2, h3⟩ := h
    refine ⟨sub k, h2, fun t ht hok => ?_⟩
    obtain ⟨j, hj, rfl⟩ := all t ht
    exact h3 j hj hok
theorem small_best (ok : List Int → Bool) {ids : List Int} (hp : ids.Pairwise (· < ·)) : bestM ok ids (2 ^ ids.length) = smallF ok ids (ids.length + 1) 0 :=
  isMin_one (bestM_min ok ids) (smallF_ok ok hp _ 0 (by omega) fun t _ h => by omega)
end Go.E

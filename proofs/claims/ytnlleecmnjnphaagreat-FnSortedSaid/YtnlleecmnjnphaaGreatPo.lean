/-
  Plain laws: pairs and what follows from them; wishes; expressions and how they compare items. No program here. Conditions: none.
-/
import Derived.Test.YtnlleecmnjnphaaGreatRc
set_option linter.unusedVariables false
set_option linter.unusedSimpArgs false
namespace Go.E
open Go

/-! ### Pairs -/
def pth (l : List (Int × Int)) : Nat → Int → Int → Prop
  | 0, a, b => (a, b) ∈ l
  | n + 1, a, b => ∃ m, (a, m) ∈ l ∧ pth l n m b
def Rch (l : List (Int × Int)) (a b : Int) : Prop := ∃ n, pth l n a b
theorem Rch.one {l : List (Int × Int)} {a b : Int} (h : (a, b) ∈ l) : Rch l a b := ⟨0, h⟩
theorem Rch.step {l : List (Int × Int)} {a m b : Int} (h : (a, m) ∈ l) (k : Rch l m b) : Rch l a b := by
  obtain ⟨n, k⟩ := k
  exact ⟨n + 1, m, h, k⟩
theorem pth.trans {l : List (Int × Int)} {m b : Int} (k : Rch l m b) : ∀ (n : Nat) (a : Int), pth l n a m → Rch l a b
  | 0, a, h => .step h k
  | n + 1, a, ⟨c, h1, h2⟩ => .step h1 (pth.trans k n c h2)
theorem Rch.trans {l : List (Int × Int)} {a m b : Int} (h : Rch l a m) (k : Rch l m b) : Rch l a b := by
  obtain ⟨n, h⟩ := h
  exact pth.trans k n a h
theorem Rch.first {l : List (Int × Int)} {a b : Int} (h : Rch l a b) : ∃ m, (a, m) ∈ l := by
  obtain ⟨n, h⟩ := h
  cases n with
  | zero => exact ⟨b, h⟩
  | succ n => obtain ⟨m, h1, _⟩ := h; exact ⟨m, h1⟩
/-- what is closed under the pairs and has the first has all that follow -/
theorem Rch.closed {l : List (Int × Int)} {p : Int → Prop} (hp : ∀ x y, p x → (x, y) ∈ l → p y) : ∀ (n : Nat) (a b : Int), p a → pth l n a b → p b
  | 0, a, b, h, k => hp a b h k
  | n + 1, a, b, h, ⟨m, k1, k2⟩ => Rch.closed hp n m b (hp a m h k1) k2
theorem Rch.last {l : List (Int × Int)} : ∀ (n : Nat) (a b : Int), pth l n a b → (a, b) ∈ l ∨ ∃ m, Rch l a m ∧ (m, b) ∈ l
  | 0, a, b, h => .inl h
  | n + 1, a, b, ⟨m, h1, h2⟩ => by
    rcases Rch.last n m b h2 with h | ⟨c, h3, h4⟩
    · exact .inr ⟨m, .one h1, h⟩
    · exact .inr ⟨c, .step h1 h3, h4⟩

/-- by which values a way may lead: those below k -/
def fwB (l : List (Int × Int)) : Nat → Int → Int → Bool
  | 0, a, b => decide ((a, b) ∈ l)
  | k + 1, a, b => fwB l k a b || (fwB l k a (k : Int) && fwB l k (k : Int) b)
def reachB (l : List (Int × Int)) (a b : Int) : Bool := fwB l 10 a b
theorem fwB_sound {l : List (Int × Int)} : ∀ (k : Nat) (a b : Int), fwB l k a b = true → Rch l a b
  | 0, a, b, h => .one (by simpa [fwB] using h)
  | k + 1, a, b, h => by
    simp only [fwB, Bool.or_eq_true, Bool.and_eq_true] at h
    rcases h with h | ⟨h1, h2⟩
    · exact fwB_sound k a b h
    · exact (fwB_sound k a _ h1).trans (fwB_sound k _ b h2)
def pthB (l : List (Int × Int)) (k : Nat) : Nat → Int → Int → Prop
  | 0, a, b => (a, b) ∈ l
  | n + 1, a, b => ∃ m, (a, m) ∈ l ∧ (0 ≤ m ∧ m < (k : Int)) ∧ pthB l k n m b
theorem pthB_split {l : List (Int × Int)} {k : Nat} : ∀ (n : Nat) (a b : Int), pthB l (k + 1) n a b → (∃ n', pthB l k n' a b) ∨ ((∃ n', pthB l k n' a (k : Int)) ∧ ∃ n', pthB l k n' (k : Int) b)
  | 0, a, b, h => .inl ⟨0, h⟩
  | n + 1, a, b, ⟨m, h1, h2, h3⟩ => by
    have ih := pthB_split n m b h3
    by_cases hm : m = (k : Int)
    · subst hm
      refine .inr ⟨⟨0, h1⟩, ?_⟩
      rcases ih with h | ⟨_, h⟩
      · exact h
      · exact h
    · have hmk : 0 ≤ m ∧ m < (k : Int) := by omega
      rcases ih with ⟨n', h⟩ | ⟨⟨n', h⟩, h'⟩
      · exact .inl ⟨n' + 1, m, h1, hmk, h⟩
      · exact .inr ⟨⟨n' + 1, m, h1, hmk, h⟩, h'⟩
theorem pthB_zero {l : List (Int × Int)} : ∀ (n : Nat) (a b : Int), pthB l 0 n a b → (a, b) ∈ l
  | 0, a, b, h => h
  | n + 1, a, b, ⟨m, _, h2, _⟩ => by omega
theorem fwB_complete {l : List (Int × Int)} : ∀ (k n : Nat) (a b : Int), pthB l k n a b → fwB l k a b = true
  | 0, n, a, b, h => by simpa [fwB] using pthB_zero n a b h
  | k + 1, n, a, b, h => by
    simp only [fwB, Bool.or_eq_true, Bool.and_eq_true]
    rcases pthB_split n a b h with ⟨n', h'⟩ | ⟨⟨n', h'⟩, ⟨n2, h2⟩⟩
    · exact .inl (fwB_complete k n' a b h')
    · exact .inr ⟨fwB_complete k n' a _ h', fwB_complete k n2 _ b h2⟩
def prOk (l : List (Int × Int)) : Bool := allB l.length fun i => inR (gi l (i : Int)).1 0 9 && inR (gi l (i : Int)).2 0 9
theorem prOk_mem {l : List (Int × Int)} (h : prOk l = true) {a b : Int} (hm : (a, b) ∈ l) : (0 ≤ a ∧ a ≤ 9) ∧ (0 ≤ b ∧ b ≤ 9) := by
  obtain ⟨i, hi, he⟩ := List.getElem_of_mem hm
  have := List.all_eq_true.1 h i (by simpa using hi)
  rw [gi_lt hi, he] at this
  simpa [inR] using this
theorem prOk_at {l : List (Int × Int)} (h : prOk l = true) {i : Nat} (hi : i < l.length) : (0 ≤ (gi l (i : Int)).1 ∧ (gi l (i : Int)).1 ≤ 9) ∧ (0 ≤ (gi l (i : Int)).2 ∧ (gi l (i : Int)).2 ≤ 9) := by
  have := List.all_eq_true.1 h i (by simpa using hi)
  simpa [inR] using this
theorem reach_iff {l : List (Int × Int)} (h : prOk l = true) {a b : Int} : reachB l a b = true ↔ Rch l a b := by
  refine ⟨fwB_sound 10 a b, fun ⟨n, hn⟩ => ?_⟩
  have key : ∀ (n : Nat) (a b : Int), pth l n a b → pthB l 10 n a b := by
    intro n
    induction n with
    | zero => intro a b h; exact h
    | succ n ih =>
      rintro a b ⟨m, h1, h2⟩
      have := prOk_mem h h1
      exact ⟨m, h1, by omega, ih m b h2⟩
  exact fwB_complete 10 n a b (key n a b hn)
def noLoop (l : List (Int × Int)) : Bool := allB 10 fun v => !reachB l (v : Int) (v : Int)
def arePairs (l : List (Int × Int)) : Bool := prOk l && decide (l.length ≤ 8) && noLoop l
theorem arePairs_ok {l : List (Int × Int)} (h : arePairs l = true) : prOk l = true ∧ l.length ≤ 8 ∧ ∀ v, ¬ Rch l v v := by
  simp only [arePairs, Bool.and_eq_true, decide_eq_true_eq] at h
  obtain ⟨⟨h1, h2⟩, h3⟩ := h
  refine ⟨h1, h2, fun v hv => ?_⟩
  obtain ⟨m, hm⟩ := hv.first
  have hb := (prOk_mem h1 hm).1
  obtain ⟨k, rfl⟩ := Int.eq_ofNat_of_zero_le hb.1
  have := List.all_eq_true.1 h3 k (by simp; omega)
  rw [Bool.not_eq_true'] at this
  rw [(reach_iff h1).2 hv] at this
  cases this

/-! ### Wishes -/
def ascL (l : List Int) : Bool := allB l.length (ascAt 9 l)
def isWish (w : Wsh) : Bool := inR w.field 0 2 && inR w.kind 0 4 && inR w.value 0 9 && ascL w.list && (decide (w.kind = 2) || decide (w.value = 0)) && (decide (w.kind = 3) == decide (0 < w.list.length)) &&
  (if w.kind = 4 then arePairs w.pairs else decide (w.pairs.length = 0))
theorem isWish_ok {w : Wsh} (h : isWish w = true) : (0 ≤ w.field ∧ w.field ≤ 2) ∧ (0 ≤ w.kind ∧ w.kind ≤ 4) ∧ (0 ≤ w.value ∧ w.value ≤ 9) ∧ (w.kind = 4 → arePairs w.pairs = true) ∧ (w.kind ≠ 3 → w.list.length = 0) ∧ (w.kind ≠ 4 → w.pairs.length = 0) ∧ ascL w.list = true := by
  simp only [isWish, Bool.and_eq_true, inR, decide_eq_true_eq, beq_iff_eq] at h
  obtain ⟨⟨⟨⟨⟨⟨h1, h2⟩, h3⟩, h4⟩, h5⟩, h6⟩, h7⟩ := h
  refine ⟨h1, h2, h3, fun hk => by rw [if_pos hk] at h7; exact h7, fun hk => ?_, fun hk => by rw [if_neg hk] at h7; simpa using h7, h4⟩
  have : decide (w.kind = 3) = false := by simpa using hk
  rw [this] at h6
  have := of_decide_eq_false h6.symm
  omega
def rankV (w : Wsh) (v : Int) : Int := if w.kind = 0 then v else if w.kind = 1 then 9 - v else if w.kind = 2 then max (v - w.value) (w.value - v) else if hasI w.list v then 0 else 1
def cmpV (w : Wsh) (a b : Int) : Int := if w.kind = 4 then (if a = b then 0 else if reachB w.pairs a b then 1 else if reachB w.pairs b a then -1 else 2)
  else if rankV w a < rankV w b then 1 else if rankV w b < rankV w a then -1 else 0
def itemCmp (w : Wsh) (x y : Itm) : Int := cmpV w (gi x.vals w.field) (gi y.vals w.field)

/-- how a valid comparison behaves -/
structure Ord3 (f : Itm → Itm → Int) : Prop where
  rng : ∀ x y, f x y = -1 ∨ f x y = 0 ∨ f x y = 1 ∨ f x y = 2
  refl : ∀ x, f x x = 0
  anti : ∀ x y, (f x y = 2 → f y x = 2) ∧ (f x y ≠ 2 → f y x = - f x y)
  trans : ∀ x y z, (f x y = 0 ∨ f x y = 1) → (f y z = 0 ∨ f y z = 1) → f x z = max (f x y) (f y z)

theorem itemCmp_ok {w : Wsh} (h : isWish w = true) : Ord3 (itemCmp w) := by
  classical
  have hw := isWish_ok h
  by_cases hk : w.kind = 4
  · obtain ⟨h1, h2, h3⟩ := arePairs_ok (hw.2.2.2.1 hk)
    have hr : ∀ a b, reachB w.pairs a b = true ↔ Rch w.pairs a b := fun a b => reach_iff h1
    have hno : ∀ a b, Rch w.pairs a b → ¬ Rch w.pairs b a := fun a b h h' => h3 a (h.trans h')
    have hdef : ∀ a b, cmpV w a b = if a = b then 0 else if Rch w.pairs a b then 1 else if Rch w.pairs b a then -1 else 2 := by
      intro a b
      simp only [cmpV, if_pos hk]
      by_cases hab : a = b
      · simp [hab]
      · rw [if_neg hab, if_neg hab]
        by_cases h4 : Rch w.pairs a b
        · rw [if_pos ((hr a b).2 h4), if_pos h4]
        · have e4 : ¬ (reachB w.pairs a b = true) := fun e => h4 ((hr a b).1 e)
          rw [if_neg e4, if_neg h4]
          by_cases h5 : Rch w.pairs b a
          · rw [if_pos ((hr b a).2 h5), if_pos h5]
          · have e5 : ¬ (reachB w.pairs b a = true) := fun e => h5 ((hr b a).1 e)
            rw [if_neg e5, if_neg h5]
    refine ⟨fun x y => ?_, fun x => ?_, fun x y => ?_, fun x y z hxy hyz => ?_⟩
    · simp only [itemCmp, hdef]
      split
      · simp
      · split
        · simp
        · split <;> simp
    · simp [itemCmp, hdef]
    · simp only [itemCmp, hdef]
      generalize gi x.vals w.field = a
      generalize gi y.vals w.field = b
      by_cases hab : a = b
      · subst hab; simp
      · have hba : ¬ b = a := fun e => hab e.symm
        by_cases h4 : Rch w.pairs a b
        · simp [h4, hno a b h4, hab, hba]
        · by_cases h5 : Rch w.pairs b a
          · simp [h4, h5, hab, hba]
          · simp [h4, h5, hab, hba]
    · simp only [itemCmp, hdef] at hxy hyz ⊢
      generalize gi x.vals w.field = a at *
      generalize gi y.vals w.field = b at *
      generalize gi z.vals w.field = c at *
      by_cases hab : a = b
      · subst hab
        by_cases hbc : a = c
        · subst hbc; simp
        · rw [if_neg hbc] at hyz ⊢
          by_cases h4 : Rch w.pairs a c
          · simp [h4, Int.max_def]
          · rw [if_neg h4] at hyz
            split at hyz <;> simp at hyz
      · have h4 : Rch w.pairs a b := by
          rw [if_neg hab] at hxy
          by_cases h4 : Rch w.pairs a b
          · exact h4
          · rw [if_neg h4] at hxy
            split at hxy <;> simp at hxy
        by_cases hbc : b = c
        · subst hbc; simp [hab, h4, Int.max_def]
        · have h5 : Rch w.pairs b c := by
            rw [if_neg hbc] at hyz
            by_cases h5 : Rch w.pairs b c
            · exact h5
            · rw [if_neg h5] at hyz
              split at hyz <;> simp at hyz
          have h6 := h4.trans h5
          have hac : a ≠ c := fun e => h3 a (by rw [← e] at h6; exact h6)
          simp [hab, hbc, hac, h4, h5, h6]
  · refine ⟨fun x y => ?_, fun x => ?_, fun x y => ?_, fun x y z hxy hyz => ?_⟩ <;> simp only [itemCmp, cmpV, if_neg hk] at *
    · split
      · simp
      · split <;> simp
    · simp
    · generalize rankV w (gi x.vals w.field) = a
      generalize rankV w (gi y.vals w.field) = b
      by_cases h1 : a < b
      · have h2 : ¬ b < a := by omega
        simp [h1, h2]
      · by_cases h2 : b < a
        · simp [h1, h2]
        · simp [h1, h2]
    · generalize rankV w (gi x.vals w.field) = a at *
      generalize rankV w (gi y.vals w.field) = b at *
      generalize rankV w (gi z.vals w.field) = c at *
      have h1 : a ≤ b := by
        split at hxy
        · omega
        · split at hxy
          · simp at hxy
          · omega
      have h2 : b ≤ c := by
        split at hyz
        · omega
        · split at hyz
          · simp at hyz
          · omega
      by_cases hab : a < b <;> by_cases hbc : b < c
      · have : a < c := by omega
        simp [hab, hbc, this, Int.max_def]
      · have : a < c := by omega
        have e1 : ¬ c < b := by omega
        simp [hab, hbc, this, e1, Int.max_def]
      · have : a < c := by omega
        have e1 : ¬ b < a := by omega
        simp [hab, hbc, this, e1, Int.max_def]
      · have e1 : ¬ b < a := by omega
        have e2 : ¬ c < b := by omega
        have e3 : ¬ a < c := by omega
        have e4 : ¬ c < a := by omega
        simp [hab, hbc, e1, e2, e3, e4]

/-! ### Expressions -/
def opnds (op : Int) : Int := if op = 0 then 0 else if op = 3 then 1 else 2
def noWish (w : Wsh) : Bool := decide (w.kind = 0) && decide (w.field = 0) && decide (w.value = 0) && decide (w.list.length = 0) && decide (w.pairs.length = 0)
/-- the depth of the stack behind the first n nodes -/
def exD (e : List Nod) : Nat → Int
  | 0 => 0
  | n + 1 => exD e n - opnds (gi e (n : Int)).op + 1
def exOk (e : List Nod) (n : Nat) : Bool := inR (gi e (n : Int)).op 0 4 && decide (opnds (gi e (n : Int)).op ≤ exD e n) && (if (gi e (n : Int)).op = 0 then isWish (gi e (n : Int)).wish else noWish (gi e (n : Int)).wish)
def isExpr (e : List Nod) : Bool := allB e.length (exOk e) && decide (exD e e.length = 1) && decide (e.length ≤ 9)
def comb (op a b : Int) : Int :=
  if op = 1 then (if a = 2 ∨ b = 2 ∨ a * b < 0 then 2 else if a ≠ 0 then a else b)
  else if op = 2 then (if a ≠ 0 then a else b)
  else if a = b then a else 2
def dual (a : Int) : Int := if a = 2 then 2 else -a
def stk (e : List Nod) (x y : Itm) : Nat → List Int
  | 0 => []
  | n + 1 => if (gi e (n : Int)).op = 0 then stk e x y n ++ [itemCmp (gi e (n : Int)).wish x y]
    else if (gi e (n : Int)).op = 3 then (stk e x y n).set ((stk e x y n).length - 1) (dual (gi (stk e x y n) (((stk e x y n).length - 1 : Nat) : Int)))
    else (stk e x y n).take ((stk e x y n).length - 2) ++ [comb (gi e (n : Int)).op (gi (stk e x y n) (((stk e x y n).length - 2 : Nat) : Int)) (gi (stk e x y n) (((stk e x y n).length - 1 : Nat) : Int))]
def cmpE (e : List Nod) (x y : Itm) : Int := gi (stk e x y e.length) 0
theorem exD_nat {e : List Nod} {n : Nat} (h : ∀ i, i < n → exOk e i = true) : 0 ≤ exD e n := by
  induction n with
  | zero => simp [exD]
  | succ n ih =>
    have h1 := h n (by omega)
    simp only [exOk, Bool.and_eq_true, decide_eq_true_eq] at h1
    simp only [exD]; omega
theorem exOk_op {e : List Nod} {n : Nat} (h : exOk e n = true) : (0 ≤ (gi e (n : Int)).op ∧ (gi e (n : Int)).op ≤ 4) ∧ opnds (gi e (n : Int)).op ≤ exD e n ∧ ((gi e (n : Int)).op = 0 → isWish (gi e (n : Int)).wish = true) ∧ ((gi e (n : Int)).op ≠ 0 → noWish (gi e (n : Int)).wish = true) := by
  simp only [exOk, Bool.and_eq_true, decide_eq_true_eq, inR] at h
  refine ⟨h.1.1, h.1.2, fun h0 => ?_, fun h0 => ?_⟩
  · have := h.2; rw [if_pos h0] at this; exact this
  · have := h.2; rw [if_neg h0] at this; exact this
theorem stk_len {e : List Nod} {x y : Itm} {n : Nat} (h : ∀ i, i < n → exOk e i = true) : ((stk e x y n).length : Int) = exD e n := by
  induction n with
  | zero => simp [stk, exD]
  | succ n ih =>
    have ih := ih fun i hi => h i (by omega)
    obtain ⟨h1, h2, h3⟩ := exOk_op (h n (by omega))
    simp only [stk, exD]
    split
    · rename_i h0; simp [opnds, h0, ih]
    · split
      · rename_i h0 h3; simp [opnds, h3, ih]
      · rename_i h0 h3
        simp only [opnds, if_neg h0, if_neg h3] at h2 ⊢
        rw [List.length_append, List.length_take, List.length_cons, List.length_nil]; omega
theorem isExpr_ok {e : List Nod} (h : isExpr e = true) : (∀ i, i < e.length → exOk e i = true) ∧ exD e e.length = 1 ∧ e.length ≤ 9 := by
  simp only [isExpr, Bool.and_eq_true, decide_eq_true_eq] at h
  exact ⟨fun i hi => List.all_eq_true.1 h.1.1 i (by simpa using hi), h.1.2, h.2⟩

theorem Ord3.dual {f : Itm → Itm → Int} (h : Ord3 f) : Ord3 fun x y => dual (f x y) := by
  have hb := fun x y => h.rng x y
  refine ⟨fun x y => ?_, fun x => ?_, fun x y => ?_, fun x y z hxy hyz => ?_⟩
  · unfold E.dual; have := hb x y; split <;> omega
  · simp [E.dual, h.refl]
  · unfold E.dual
    have h1 := h.anti x y
    have h2 := hb x y
    constructor
    · intro h3
      split at h3
      · rename_i h4; simp [h1.1 h4]
      · omega
    · intro h3
      split at h3
      · omega
      · rename_i h4
        have := h1.2 h4
        rw [if_neg (by omega), if_neg h4, this]
  · unfold E.dual at *
    have a1 := h.anti x y
    have a2 := h.anti y z
    have a3 := h.anti z x
    have t := h.trans z y x
    have b1 := hb x y; have b2 := hb y z
    have n1 : f x y ≠ 2 := fun e => by rw [if_pos e] at hxy; omega
    have n2 : f y z ≠ 2 := fun e => by rw [if_pos e] at hyz; omega
    rw [if_neg n1] at hxy ⊢
    rw [if_neg n2] at hyz ⊢
    have t' := t (by have := a2.2 n2; omega) (by have := a1.2 n1; omega)
    have e1 := a1.2 n1
    have e2 := a2.2 n2
    have e3 := a3.2 (by omega)
    rw [if_neg (by omega), e3]; omega
theorem Ord3.comb {f g : Itm → Itm → Int} (h : Ord3 f) (k : Ord3 g) (op : Int) : Ord3 fun x y => comb op (f x y) (g x y) := by
  have mulneg : ∀ a b : Int, (a = -1 ∨ a = 0 ∨ a = 1 ∨ a = 2) → (b = -1 ∨ b = 0 ∨ b = 1 ∨ b = 2) → ¬ a = 2 → ¬ b = 2 → (a * b < 0 ↔ (a = 1 ∧ b = -1) ∨ (a = -1 ∧ b = 1)) := by
    rintro a b (rfl | rfl | rfl | rfl) (rfl | rfl | rfl | rfl) h1 h2 <;> simp at *
  have hc : ∀ a b : Int, (a = -1 ∨ a = 0 ∨ a = 1 ∨ a = 2) → (b = -1 ∨ b = 0 ∨ b = 1 ∨ b = 2) →
      E.comb op a b = if op = 1 then (if a = 2 ∨ b = 2 ∨ (a = 1 ∧ b = -1) ∨ (a = -1 ∧ b = 1) then 2 else if a ≠ 0 then a else b) else if op = 2 then (if a ≠ 0 then a else b) else if a = b then a else 2 := by
    rintro a b (rfl | rfl | rfl | rfl) (rfl | rfl | rfl | rfl) <;> simp [E.comb]
  have hb : ∀ x y, E.comb op (f x y) (g x y) = _ := fun x y => hc _ _ (h.rng x y) (k.rng x y)
  refine ⟨fun x y => ?_, fun x => ?_, fun x y => ?_, fun x y z hxy hyz => ?_⟩
  · rw [hb]
    have a1 := h.rng x y; have b1 := k.rng x y
    repeat' split
    all_goals omega
  · rw [hb, h.refl, k.refl]; simp
  · simp only [hb]
    have a1 := h.rng x y; have b1 := k.rng x y
    have a2 := h.anti x y; have b2 := k.anti x y
    generalize f x y = p at *
    generalize g x y = q at *
    generalize f y x = p' at *
    generalize g y x = q' at *
    have ep : p' = if p = 2 then 2 else -p := by
      by_cases e : p = 2
      · rw [if_pos e, a2.1 e]
      · rw [if_neg e, a2.2 e]
    have eq : q' = if q = 2 then 2 else -q := by
      by_cases e : q = 2
      · rw [if_pos e, b2.1 e]
      · rw [if_neg e, b2.2 e]
    subst ep; subst eq
    by_cases o1 : op = 1
    · simp only [if_pos o1]
      rcases a1 with rfl | rfl | rfl | rfl <;> rcases b1 with rfl | rfl | rfl | rfl <;> simp
    · by_cases o2 : op = 2
      · simp only [if_neg o1, if_pos o2]
        rcases a1 with rfl | rfl | rfl | rfl <;> rcases b1 with rfl | rfl | rfl | rfl <;> simp
      · simp only [if_neg o1, if_neg o2]
        rcases a1 with rfl | rfl | rfl | rfl <;> rcases b1 with rfl | rfl | rfl | rfl <;> simp
  · simp only [hb, Int.max_def] at hxy hyz ⊢
    have a1 := h.rng x y; have b1 := k.rng x y
    have a2 := h.rng y z; have b2 := k.rng y z
    have ta := h.trans x y z; have tb := k.trans x y z
    clear hb hc mulneg
    simp only [Int.max_def] at ta tb
    have na := h.rng x z; have nb := k.rng x z
    generalize f x y = p at *
    generalize g x y = q at *
    generalize f y z = p2 at *
    generalize g y z = q2 at *
    generalize f x z = p3 at *
    generalize g x z = q3 at *
    by_cases o1 : op = 1
    · simp only [if_pos o1] at *
      rcases a1 with rfl | rfl | rfl | rfl <;> rcases b1 with rfl | rfl | rfl | rfl <;> simp at hxy <;>
      rcases a2 with rfl | rfl | rfl | rfl <;> rcases b2 with rfl | rfl | rfl | rfl <;> simp at hyz <;> simp at ta tb <;> simp [ta, tb]
    · by_cases o2 : op = 2
      · simp only [if_neg o1, if_pos o2] at *
        rcases a1 with rfl | rfl | rfl | rfl <;> simp at hxy <;>
        rcases a2 with rfl | rfl | rfl | rfl <;> simp at hyz <;> simp at ta <;> simp [ta] <;> first | omega | (rcases hxy with rfl | rfl <;> rcases hyz with rfl | rfl <;> simp at tb <;> simp [tb])
      · simp only [if_neg o1, if_neg o2] at *
        by_cases hpq : p = q
        · subst hpq
          simp only [if_pos rfl] at hxy
          by_cases hpq2 : p2 = q2
          · subst hpq2
            simp only [if_pos rfl] at hyz
            have ta := ta hxy hyz
            have tb := tb hxy hyz
            subst ta; subst tb
            simp
          · rw [if_neg hpq2] at hyz; omega
        · rw [if_neg hpq] at hxy; omega

def stkF (e : List Nod) : Nat → List (Itm → Itm → Int)
  | 0 => []
  | n + 1 => if (gi e (n : Int)).op = 0 then stkF e n ++ [itemCmp (gi e (n : Int)).wish]
    else if (gi e (n : Int)).op = 3 then (stkF e n).set ((stkF e n).length - 1) (fun x y => dual ((stkF e n).getD ((stkF e n).length - 1) (fun _ _ => 0) x y))
    else (stkF e n).take ((stkF e n).length - 2) ++ [fun x y => comb (gi e (n : Int)).op ((stkF e n).getD ((stkF e n).length - 2) (fun _ _ => 0) x y) ((stkF e n).getD ((stkF e n).length - 1) (fun _ _ => 0) x y)]
theorem gi_map {α : Type} (fs : List α) (k : α → Int) (d : α) (hd : k d = 0) (i : Nat) : gi (fs.map k) (i : Int) = k (fs.getD i d) := by
  simp only [gi, Int.toNat_natCast, List.getD_eq_getElem?_getD, List.getElem?_map]
  cases h : fs[i]? with
  | none => simp [hd]
  | some v => simp
theorem stk_eq (e : List Nod) (x y : Itm) (n : Nat) : stk e x y n = (stkF e n).map fun f => f x y := by
  induction n with
  | zero => rfl
  | succ n ih =>
    simp only [stk, stkF, ih, List.length_map]
    split
    · simp
    · split
      · rw [gi_map _ _ (fun _ _ => 0) rfl]; simp
      · rw [gi_map _ _ (fun _ _ => 0) rfl, gi_map _ _ (fun _ _ => 0) rfl]; simp
theorem stkF_ok {e : List Nod} {n : Nat} (h : ∀ i, i < n → exOk e i = true) : ∀ f, f ∈ stkF e n → Ord3 f := by
  induction n with
  | zero => intro f hf; simp [stkF] at hf
  | succ n ih =>
    have ih := ih fun i hi => h i (by omega)
    obtain ⟨h1, h2, h3, _⟩ := exOk_op (h n (by omega))
    have hl : ((stkF e n).length : Int) = exD e n := by
      have := stk_len (x := default) (y := default) (n := n) (e := e) fun i hi => h i (by omega)
      rwa [stk_eq, List.length_map] at this
    have at_ : ∀ k, k < (stkF e n).length → Ord3 ((stkF e n).getD k (fun _ _ => 0)) := fun k hk => by
      rw [List.getD_eq_getElem?_getD, List.getElem?_eq_getElem hk]
      exact ih _ (List.getElem_mem hk)
    intro f hf
    simp only [stkF] at hf
    split at hf
    · rename_i h0
      rcases List.mem_append.1 hf with hf | hf
      · exact ih f hf
      · have : f = itemCmp (gi e (n : Int)).wish := by simpa using hf
        subst this; exact itemCmp_ok (h3 h0)
    · split at hf
      · rename_i h0 h3
        simp only [opnds, if_neg h0, if_pos h3] at h2
        rcases List.mem_or_eq_of_mem_set hf with hf | hf
        · exact ih f hf
        · subst hf; exact (at_ _ (by omega)).dual
      · rename_i h0 h3
        simp only [opnds, if_neg h0, if_neg h3] at h2
        rcases List.mem_append.1 hf with hf | hf
        · exact ih f (List.mem_of_mem_take hf)
        · have := List.mem_singleton.1 hf
          subst this; exact (at_ _ (by omega)).comb (at_ _ (by omega)) _
theorem cmpE_ok {e : List Nod} (h : isExpr e = true) : Ord3 (cmpE e) := by
  obtain ⟨h1, h2, _⟩ := isExpr_ok h
  have hl : ((stkF e e.length).length : Int) = 1 := by
    have := stk_len (x := default) (y := default) (n := e.length) (e := e) h1
    rwa [stk_eq, List.length_map, h2] at this
  have hl0 : 0 < (stkF e e.length).length := by omega
  have : cmpE e = (stkF e e.length)[0] := by
    funext x y
    rw [cmpE, stk_eq]
    rw [show (0 : Int) = ((0 : Nat) : Int) from rfl, gi_map (stkF e e.length) (fun f => f x y) (fun _ _ => 0) rfl 0, List.getD_eq_getElem?_getD, List.getElem?_eq_getElem hl0]; rfl
  rw [this]
  exact stkF_ok h1 _ (List.getElem_mem hl0)
end Go.E

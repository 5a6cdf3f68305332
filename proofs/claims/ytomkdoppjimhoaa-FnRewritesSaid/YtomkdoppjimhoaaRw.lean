/-
  Plain laws: the rules of rewriting keep what an expression says, and all but the last make it less; normal forms. No program here. Conditions: as stated.
-/
import Derived.Test.YtomkdoppjimhoaaTr
set_option linter.unusedVariables false
set_option linter.unusedSimpArgs false
namespace Go.E
open Go Go.RowKit Go.Proofs
def seg (e : List Nod) (a b : Nat) : List Nod := (e.take b).drop a
def partR (e : List Nod) (rule : Int) (p : Nat) : Option (List Nod) :=
  if rule = 1 then (if (gi e (p : Int)).op = 3 ∧ (gi e ((p : Int) - 1)).op = 3 then some (seg e (st e (p + 1)) (p - 1)) else none)
  else if rule = 2 then (if (gi e (p : Int)).op = 3 ∧ opnds (gi e ((p : Int) - 1)).op = 2 then some (seg e (st e (p + 1)) (st e (p - 1)) ++ [opN 3] ++ seg e (st e (p - 1)) (p - 1) ++ [opN 3, opN (gi e ((p : Int) - 1)).op]) else none)
  else if rule = 3 then (if opnds (gi e (p : Int)).op = 2 ∧ seg e (st e (p + 1)) (st e p) = seg e (st e p) p then some (seg e (st e (p + 1)) (st e p)) else none)
  else if rule = 4 then (if (gi e (p : Int)).op = 1 ∨ (gi e (p : Int)).op = 4 then some (seg e (st e p) p ++ seg e (st e (p + 1)) (st e p) ++ [opN (gi e (p : Int)).op]) else none)
  else none
def putR (e : List Nod) (p : Nat) (q : List Nod) : List Nod := e.take (st e (p + 1)) ++ q ++ e.drop (p + 1)
def placeB (e : List Nod) (at_ : Int) : Bool := isExpr e && inR at_ 0 ((e.length : Int) - 1)
def applyR (e : List Nod) (rule at_ : Int) : Option (List Nod) :=
  if placeB e at_ then (match partR e rule at_.toNat with
    | some q => if (putR e at_.toNat q).length ≤ 9 then some (putR e at_.toNat q) else none
    | none => none) else none
theorem placeB_ok {e : List Nod} {at_ : Int} (h : placeB e at_ = true) : isExpr e = true ∧ ∃ p : Nat, at_ = (p : Int) ∧ p < e.length := by
  simp only [placeB, Bool.and_eq_true, inR, decide_eq_true_eq] at h
  exact ⟨h.1, at_.toNat, by omega, by omega⟩
theorem tk {e B : List Nod} {n : Nod} {p : Nat} (hp : p < e.length) (h : e.take (p + 1) = B ++ [n]) : gi e (p : Int) = n ∧ e.take p = B := by
  rw [take_gi hp] at h
  have := List.append_inj' h rfl
  exact ⟨by simpa using this.2, this.1⟩
theorem seg_of {e A B : List Nod} {a b : Nat} (h : e.take b = A ++ B) (ha : a = A.length) : seg e a b = B := by
  rw [seg, h, ha, List.drop_left]
theorem take_pre {e A B : List Nod} {n : Nat} (h : e.take n = A ++ B) : e.take A.length = A := by
  have h1 : A.length ≤ n := by
    have := congrArg List.length h
    rw [List.length_take, List.length_append] at this; omega
  have := congrArg (List.take A.length) h
  rwa [List.take_take, Nat.min_eq_left h1, List.take_left] at this
/-- what stands at a place of a valid expression -/
structure At (e : List Nod) (p : Nat) (c : Cx) (t : Tr) : Prop where
  tree : e = flat (plug c t)
  ok : (plug c t).ok
  len : (preC c).length + (flat t).length = p + 1
  take : e.take (p + 1) = preC c ++ flat t
  drop : e.drop (p + 1) = postC c
  st : st e (p + 1) = (preC c).length
  hit : hitR (e.take (p + 1)).reverse 1
theorem at_ex {e : List Nod} (h : isExpr e = true) {p : Nat} (hp : p < e.length) : ∃ c t, At e p c t := by
  obtain ⟨T, rfl, hT⟩ := expr_tree h
  obtain ⟨c, t, rfl, hl⟩ := place T p hp
  have h1 : (flat (plug c t)).take (p + 1) = preC c ++ flat t := by
    rw [flat_plug, ← List.append_assoc, ← hl, ← List.length_append, List.take_left]
  have h2 : (flat (plug c t)).drop (p + 1) = postC c := by
    rw [flat_plug, ← List.append_assoc, ← hl, ← List.length_append, List.drop_left]
  obtain ⟨h3, h4⟩ := st_at (A := preC c) (B := []) (plug_ok hT) h1
  exact ⟨c, t, rfl, hT, hl, h1, h2, h3, h4⟩
theorem At.put {e : List Nod} {p : Nat} {c : Cx} {t t' : Tr} (h : At e p c t) : putR e p (flat t') = flat (plug c t') := by
  rw [putR, h.st, take_pre h.take, h.drop, flat_plug, List.append_assoc]
/-- below a node with one operand -/
theorem At.un1 {e : List Nod} {p : Nat} {c : Cx} {s : Tr} (h : At e p c (.un s)) (hp : p < e.length) : gi e (p : Int) = opN 3 ∧ e.take p = preC c ++ flat s ∧ 0 < p := by
  have h1 := h.take
  rw [flat, ← List.append_assoc] at h1
  obtain ⟨h2, h3⟩ := tk hp h1
  refine ⟨h2, h3, ?_⟩
  have := h.len
  have := flat_pos s
  simp only [flat, List.length_append, List.length_cons, List.length_nil] at *; omega
theorem At.bin1 {e : List Nod} {p : Nat} {c : Cx} {op : Int} {l r : Tr} (h : At e p c (.bin op l r)) (hp : p < e.length) :
    gi e (p : Int) = opN op ∧ e.take p = preC c ++ (flat l ++ flat r) ∧ 0 < p ∧ (op = 1 ∨ op = 2 ∨ op = 4) ∧ E.st e p = (preC c ++ flat l).length ∧ hitR (e.take p).reverse 1 ∧ seg e (E.st e p) p = flat r ∧ seg e (E.st e (p + 1)) (E.st e p) = flat l ∧ (preC c).length ≤ E.st e p ∧ E.st e p ≤ p := by
  obtain ⟨ho, hl, hr⟩ := plug_ok h.ok
  have h1 := h.take
  rw [flat, ← List.append_assoc (flat l), ← List.append_assoc] at h1
  obtain ⟨h2, h3⟩ := tk hp h1
  have h3' : e.take p = (preC c ++ flat l) ++ flat r := by rw [h3, List.append_assoc]
  obtain ⟨h4, h5⟩ := st_at (A := preC c ++ flat l) (B := []) hr h3'
  have hlen : (preC c ++ flat l).length + (flat r).length = p := by
    have := h.len
    simp only [flat, List.length_append, List.length_cons, List.length_nil] at *; omega
  have hr0 := flat_pos r
  refine ⟨h2, h3, by omega, ho, h4, h5, by rw [h4]; exact seg_of h3' rfl, ?_, by rw [h4]; simp, by omega⟩
  rw [h.st, h4]
  exact seg_of (A := preC c) (by rw [take_pre h3']) rfl
/-- what a rule does -/
structure Rwd (rule : Int) (e x : List Nod) : Prop where
  ex : ∃ c t t', e = flat (plug c t) ∧ x = flat (plug c t') ∧ (plug c t).ok ∧ t'.ok ∧ (∀ a b, t'.ev a b = t.ev a b) ∧ (rule ≤ 3 → t'.bins ≤ t.bins ∧ t'.ms < t.ms)
theorem dual_dual (v : Int) (h : isCmp v) : dual (dual v) = v := by rcases h with rfl | rfl | rfl | rfl <;> rfl
theorem comb_dual {op a b : Int} (ha : isCmp a) (hb : isCmp b) (ho : op = 1 ∨ op = 2 ∨ op = 4) : comb op (dual a) (dual b) = dual (comb op a b) := by
  rcases ho with rfl | rfl | rfl <;> rcases ha with rfl | rfl | rfl | rfl <;> rcases hb with rfl | rfl | rfl | rfl <;> rfl
theorem comb_same {op a : Int} (ha : isCmp a) (ho : op = 1 ∨ op = 2 ∨ op = 4) : comb op a a = a := by
  rcases ho with rfl | rfl | rfl <;> rcases ha with rfl | rfl | rfl | rfl <;> rfl
theorem comb_comm {op a b : Int} (ha : isCmp a) (hb : isCmp b) (ho : op = 1 ∨ op = 4) : comb op a b = comb op b a := by
  rcases ho with rfl | rfl <;> rcases ha with rfl | rfl | rfl | rfl <;> rcases hb with rfl | rfl | rfl | rfl <;> rfl
theorem flat_same {l r : Tr} (hl : l.ok) (hr : r.ok) (h : flat l = flat r) (x y : Itm) : l.ev x y = r.ev x y := by
  rw [← cmpE_ev hl, ← cmpE_ev hr, h]
theorem opnds_1 {k : Int} (h : opnds k = 2) (h3 : k = 3) : False := by subst h3; cases h
theorem part_rw {e : List Nod} {rule : Int} {p : Nat} {q : List Nod} (h : isExpr e = true) (hp : p < e.length) (hq : partR e rule p = some q) : Rwd rule e (putR e p q) := by
  obtain ⟨c, t, ha⟩ := at_ex h hp
  have hto := plug_ok ha.ok
  unfold partR at hq
  by_cases r1 : rule = 1
  · rw [if_pos r1] at hq
    split at hq
    · rename_i hc
      simp only [Option.some.injEq] at hq
      cases t with
      | leaf w => have := (tk hp (B := preC c) (n := ⟨0, w⟩) ha.take).1; rw [this] at hc; simp [opnds, opN] at hc
      | bin op l r => have := (ha.bin1 hp).1; rw [this] at hc; have := hto.1; simp only [opN] at hc; omega
      | un s =>
        obtain ⟨h1, h2, h3⟩ := ha.un1 hp
        obtain ⟨m, rfl⟩ : ∃ m, p = m + 1 := ⟨p - 1, by omega⟩
        have e1 : ((m + 1 : Nat) : Int) - 1 = (m : Int) := by omega
        rw [e1] at hc
        cases s with
        | leaf w => have := (tk (by omega) (B := preC c) (n := ⟨0, w⟩) h2).1; rw [this] at hc; simp [opnds, opN] at hc
        | bin op l r =>
          rw [flat, ← List.append_assoc (flat l), ← List.append_assoc] at h2
          have := (tk (by omega) h2).1; rw [this] at hc; have := hto.1; simp only [opN] at hc; omega
        | un s =>
          rw [flat, ← List.append_assoc] at h2
          have h4 := (tk (by omega) h2).2
          rw [Nat.add_sub_cancel, ha.st, seg_of h4 rfl] at hq
          subst hq
          refine ⟨c, _, s, ha.tree, ha.put, ha.ok, hto, fun a b => ?_, fun _ => ?_⟩
          · simp only [Tr.ev]; rw [dual_dual _ (ev_cmp s hto a b)]
          · simp only [Tr.bins, Tr.ms]; omega
    · cases hq
  rw [if_neg r1] at hq
  by_cases r2 : rule = 2
  · rw [if_pos r2] at hq
    split at hq
    · rename_i hc
      simp only [Option.some.injEq] at hq
      cases t with
      | leaf w => have := (tk hp (B := preC c) (n := ⟨0, w⟩) ha.take).1; rw [this] at hc; simp [opnds, opN] at hc
      | bin op l r => have := (ha.bin1 hp).1; rw [this] at hc; have := hto.1; simp only [opN] at hc; omega
      | un s =>
        obtain ⟨h1, h2, h3⟩ := ha.un1 hp
        obtain ⟨m, rfl⟩ : ∃ m, p = m + 1 := ⟨p - 1, by omega⟩
        have e1 : ((m + 1 : Nat) : Int) - 1 = (m : Int) := by omega
        rw [e1] at hc hq
        cases s with
        | leaf w => have := (tk (by omega) (B := preC c) (n := ⟨0, w⟩) h2).1; rw [this] at hc; simp [opnds, opN] at hc
        | un s =>
          rw [flat, ← List.append_assoc] at h2
          have := (tk (by omega) h2).1; rw [this] at hc; simp [opnds, opN] at hc
        | bin op l r =>
          obtain ⟨ho, hl, hr⟩ : (op = 1 ∨ op = 2 ∨ op = 4) ∧ l.ok ∧ r.ok := hto
          rw [flat, ← List.append_assoc (flat l), ← List.append_assoc] at h2
          obtain ⟨h4, h5⟩ := tk (by omega) h2
          have h5' : e.take m = (preC c ++ flat l) ++ flat r := by rw [h5, List.append_assoc]
          obtain ⟨h6, _⟩ := st_at (A := preC c ++ flat l) (B := []) hr h5'
          rw [Nat.add_sub_cancel, ha.st, h6, seg_of h5' rfl, seg_of (A := preC c) (B := flat l) (take_pre h5') rfl, h4] at hq
          have e2 : q = flat (.bin op (.un l) (.un r)) := by rw [← hq]; simp [flat, opN]
          rw [e2]
          refine ⟨c, _, _, ha.tree, ha.put, ha.ok, ⟨ho, hl, hr⟩, fun a b => ?_, fun _ => ?_⟩
          · simp only [Tr.ev]; rw [comb_dual (ev_cmp l hl a b) (ev_cmp r hr a b) ho]
          · simp only [Tr.bins, Tr.ms]; omega
    · cases hq
  rw [if_neg r2] at hq
  by_cases r3 : rule = 3
  · rw [if_pos r3] at hq
    split at hq
    · rename_i hc
      simp only [Option.some.injEq] at hq
      cases t with
      | leaf w => have := (tk hp (B := preC c) (n := ⟨0, w⟩) ha.take).1; rw [this] at hc; simp [opnds, opN] at hc
      | un s => have := (ha.un1 hp).1; rw [this] at hc; simp [opnds, opN] at hc
      | bin op l r =>
        obtain ⟨ho, hl, hr⟩ : (op = 1 ∨ op = 2 ∨ op = 4) ∧ l.ok ∧ r.ok := hto
        obtain ⟨_, _, _, _, _, _, h1, h2, _⟩ := ha.bin1 hp
        rw [h1, h2] at hc
        rw [h2] at hq
        subst hq
        refine ⟨c, _, l, ha.tree, ha.put, ha.ok, hl, fun a b => ?_, fun _ => ?_⟩
        · simp only [Tr.ev]; rw [← flat_same hl hr hc.2, comb_same (ev_cmp l hl a b) ho]
        · simp only [Tr.bins, Tr.ms]; omega
    · cases hq
  rw [if_neg r3] at hq
  by_cases r4 : rule = 4
  · rw [if_pos r4] at hq
    split at hq
    · rename_i hc
      simp only [Option.some.injEq] at hq
      cases t with
      | leaf w => have := (tk hp (B := preC c) (n := ⟨0, w⟩) ha.take).1; rw [this] at hc; simp at hc
      | un s => have := (ha.un1 hp).1; rw [this] at hc; simp [opN] at hc
      | bin op l r =>
        obtain ⟨ho, hl, hr⟩ : (op = 1 ∨ op = 2 ∨ op = 4) ∧ l.ok ∧ r.ok := hto
        obtain ⟨h0, _, _, _, _, _, h1, h2, _⟩ := ha.bin1 hp
        rw [h0] at hc
        have hc' : op = 1 ∨ op = 4 := hc
        rw [h1, h2, h0] at hq
        have e2 : q = flat (.bin op r l) := by rw [← hq]; simp [flat, opN]
        rw [e2]
        refine ⟨c, _, _, ha.tree, ha.put, ha.ok, ⟨ho, hr, hl⟩, fun a b => ?_, fun h => by omega⟩
        simp only [Tr.ev]; rw [comb_comm (ev_cmp r hr a b) (ev_cmp l hl a b) hc']
    · cases hq
  rw [if_neg r4] at hq; cases hq
theorem applyR_ok {e x : List Nod} {rule at_ : Int} (h : applyR e rule at_ = some x) : Rwd rule e x ∧ x.length ≤ 9 := by
  unfold applyR at h
  split at h
  · rename_i hg
    obtain ⟨h1, p, rfl, hp⟩ := placeB_ok hg
    simp only [Int.toNat_natCast] at h
    cases hq : partR e rule p with
    | none => rw [hq] at h; cases h
    | some q =>
      rw [hq] at h
      dsimp only at h
      split at h
      · rename_i hl
        simp only [Option.some.injEq] at h
        subst h
        exact ⟨part_rw h1 hp hq, hl⟩
      · cases h
  · cases h
theorem rwd_expr {e x : List Nod} {rule : Int} (h : Rwd rule e x) (hl : x.length ≤ 9) : isExpr x = true := by
  obtain ⟨c, t, t', rfl, rfl, h1, h2, _⟩ := h.ex
  exact tree_expr (plug_ok' h2 h1) hl
theorem rwd_cmp {e x : List Nod} {rule : Int} (h : Rwd rule e x) (a b : Itm) : cmpE x a b = cmpE e a b := by
  obtain ⟨c, t, t', rfl, rfl, h1, h2, h3, _⟩ := h.ex
  rw [cmpE_ev (plug_ok' h2 h1), cmpE_ev h1, plug_ev (h3 a b)]
theorem applyR_expr {e x : List Nod} {rule at_ : Int} (h : applyR e rule at_ = some x) : isExpr e = true ∧ isExpr x = true ∧ (∀ a b, cmpE x a b = cmpE e a b) ∧ x.length ≤ 9 := by
  obtain ⟨h1, h2⟩ := applyR_ok h
  refine ⟨?_, rwd_expr h1 h2, rwd_cmp h1, h2⟩
  unfold applyR at h
  split at h
  · rename_i hg; exact (placeB_ok hg).1
  · cases h
theorem applyR_rule {e x : List Nod} {rule at_ : Int} (h : applyR e rule at_ = some x) : rule = 1 ∨ rule = 2 ∨ rule = 3 ∨ rule = 4 := by
  unfold applyR at h
  split at h
  · unfold partR at h
    by_cases h1 : rule = 1
    · exact .inl h1
    by_cases h2 : rule = 2
    · exact .inr (.inl h2)
    by_cases h3 : rule = 3
    · exact .inr (.inr (.inl h3))
    by_cases h4 : rule = 4
    · exact .inr (.inr (.inr h4))
    rw [if_neg h1, if_neg h2, if_neg h3, if_neg h4] at h; cases h
  · cases h

/-! ### Normal forms -/
/-- the first of the first three rules that applies at a place -/
def ruleAt (e : List Nod) (p : Nat) : Option (List Nod) := match applyR e 1 p with
  | some x => some x
  | none => match applyR e 2 p with
    | some x => some x
    | none => applyR e 3 p
/-- from a place on -/
def stepFrom (e : List Nod) : Nat → Nat → Option (List Nod)
  | 0, _ => none
  | k + 1, p => match ruleAt e p with
    | some x => some x
    | none => stepFrom e k (p + 1)
def step1 (e : List Nod) : Option (List Nod) := stepFrom e e.length 0
def normN : Nat → List Nod → List Nod
  | 0, e => e
  | n + 1, e => match step1 e with
    | some x => normN n x
    | none => e
def norm (e : List Nod) : List Nod := normN 60 e
theorem normN_some {n : Nat} {e x : List Nod} (h : step1 e = some x) : normN (n + 1) e = normN n x := by rw [normN, h]
theorem normN_none {n : Nat} {e : List Nod} (h : step1 e = none) : normN n e = e := by
  cases n with
  | zero => rfl
  | succ n => rw [normN, h]
theorem ruleAt_ok {e x : List Nod} {p : Nat} (h : ruleAt e p = some x) : ∃ rule : Int, rule ≤ 3 ∧ applyR e rule p = some x := by
  unfold ruleAt at h
  cases h1 : applyR e 1 p with
  | some y => rw [h1] at h; exact ⟨1, by decide, by rw [h1]; exact h⟩
  | none =>
    rw [h1] at h
    cases h2 : applyR e 2 p with
    | some y => rw [h2] at h; exact ⟨2, by decide, by rw [h2]; exact h⟩
    | none => rw [h2] at h; exact ⟨3, by decide, h⟩
theorem ruleAt_none {e : List Nod} {p : Nat} (h : ruleAt e p = none) : applyR e 1 p = none ∧ applyR e 2 p = none ∧ applyR e 3 p = none := by
  unfold ruleAt at h
  cases h1 : applyR e 1 p with
  | some y => rw [h1] at h; cases h
  | none =>
    rw [h1] at h
    cases h2 : applyR e 2 p with
    | some y => rw [h2] at h; cases h
    | none => rw [h2] at h; exact ⟨rfl, rfl, h⟩
theorem stepFrom_ok {e x : List Nod} : ∀ {k p : Nat}, stepFrom e k p = some x → ∃ p' : Nat, ruleAt e p' = some x
  | 0, _, h => by cases h
  | k + 1, p, h => by
    unfold stepFrom at h
    cases h1 : ruleAt e p with
    | some y => rw [h1] at h; exact ⟨p, by rw [h1]; exact h⟩
    | none => rw [h1] at h; exact stepFrom_ok h
theorem stepFrom_none {e : List Nod} : ∀ {k p : Nat}, stepFrom e k p = none → ∀ i, p ≤ i → i < p + k → ruleAt e i = none
  | 0, _, _, i, h1, h2 => by omega
  | k + 1, p, h, i, h1, h2 => by
    unfold stepFrom at h
    cases h3 : ruleAt e p with
    | some y => rw [h3] at h; cases h
    | none =>
      rw [h3] at h
      rcases Nat.lt_or_ge p i with h4 | h4
      · exact stepFrom_none h i h4 (by omega)
      · obtain rfl : i = p := by omega
        exact h3
theorem step1_ok {e x : List Nod} (h : step1 e = some x) : isExpr e = true ∧ isExpr x = true ∧ (∀ a b, cmpE x a b = cmpE e a b) ∧ ∃ T T' : Tr, e = flat T ∧ x = flat T' ∧ T.ok ∧ T'.ok ∧ T'.ms < T.ms := by
  obtain ⟨p, hp⟩ := stepFrom_ok h
  obtain ⟨rule, hr, ha⟩ := ruleAt_ok hp
  obtain ⟨h1, h2, h3, h4⟩ := applyR_expr ha
  refine ⟨h1, h2, h3, ?_⟩
  obtain ⟨c, t, t', he, hx, k1, k2, _, k4⟩ := (applyR_ok ha).1.ex
  exact ⟨_, _, he, hx, k1, plug_ok' k2 k1, (plug_ms (k4 hr).1 (k4 hr).2 c).2⟩
theorem norm_end : ∀ (n : Nat) (e : List Nod), (∀ T : Tr, e = flat T → T.ok → T.ms < n) → step1 (normN n e) = none
  | 0, e, h => by
    cases hs : step1 e with
    | none => exact hs
    | some x => obtain ⟨_, _, _, T, T', h1, h2, h3, h4, h5⟩ := step1_ok hs; have := h T h1 h3; omega
  | n + 1, e, h => by
    cases hs : step1 e with
    | none => rw [normN_none hs]; exact hs
    | some x =>
      rw [normN_some hs]
      obtain ⟨_, _, _, T, T', h1, h2, h3, h4, h5⟩ := step1_ok hs
      refine norm_end n x fun U hU hUo => ?_
      have := h T h1 h3
      have := flat_inj h4 hUo (h2.symm.trans hU)
      subst this
      omega
theorem norm_done {e : List Nod} (h : isExpr e = true) : step1 (norm e) = none :=
  norm_end 60 e fun T hT _ => by have := ms_bd (T := T) (by rw [← hT]; exact (isExpr_ok h).2.2); omega
theorem normN_ok : ∀ (n : Nat) (e : List Nod), (isExpr e = true → isExpr (normN n e) = true ∧ ∀ a b, cmpE (normN n e) a b = cmpE e a b) ∧ (isExpr e = false → normN n e = e)
  | 0, e => ⟨fun h => ⟨h, fun _ _ => rfl⟩, fun _ => rfl⟩
  | n + 1, e => by
    cases hs : step1 e with
    | none => rw [normN_none hs]; exact ⟨fun h => ⟨h, fun _ _ => rfl⟩, fun _ => rfl⟩
    | some x =>
      rw [normN_some hs]
      obtain ⟨h1, h2, h3, _⟩ := step1_ok hs
      have ih := (normN_ok n x).1 h2
      exact ⟨fun _ => ⟨ih.1, fun a b => by rw [ih.2, h3]⟩, fun h => by rw [h1] at h; cases h⟩
end Go.E

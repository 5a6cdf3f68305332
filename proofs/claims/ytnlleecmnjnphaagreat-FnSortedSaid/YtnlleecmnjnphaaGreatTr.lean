/-
  Plain laws: expressions as trees; starts of parts; the rules of rewriting; what they keep. No program here. Conditions: as stated.
-/
import Derived.Test.YtnlleecmnjnphaaGreatPo
import Derived.Test.YtnlleecmnjnphaaGreatGw
set_option linter.unusedVariables false
set_option linter.unusedSimpArgs false
namespace Go.E
open Go Go.RowKit Go.Proofs
def opN (k : Int) : Nod := ⟨k, ⟨0, 0, 0, [], []⟩⟩

/-! ### Validity, node by node -/
def nodOk (d : Int) (x : Nod) : Bool := inR x.op 0 4 && decide (opnds x.op ≤ d) && (if x.op = 0 then isWish x.wish else noWish x.wish)
def okL (d : Int) : List Nod → Bool
  | [] => true
  | x :: r => nodOk d x && okL (d - opnds x.op + 1) r
def dep (d : Int) : List Nod → Int
  | [] => d
  | x :: r => dep (d - opnds x.op + 1) r
theorem dep_append (a b : List Nod) : ∀ d : Int, dep d (a ++ b) = dep (dep d a) b := by
  induction a with
  | nil => intro d; rfl
  | cons x r ih => intro d; exact ih _
theorem okL_append (a b : List Nod) : ∀ d : Int, okL d (a ++ b) = (okL d a && okL (dep d a) b) := by
  induction a with
  | nil => intro d; simp [okL, dep]
  | cons x r ih => intro d; simp only [List.cons_append, okL, dep, ih, Bool.and_assoc]
theorem exD_dep (e : List Nod) : ∀ n : Nat, n ≤ e.length → exD e n = dep 0 (e.take n)
  | 0, _ => by simp [exD, dep]
  | n + 1, h => by
    rw [take_gi (by omega), dep_append, ← exD_dep e n (by omega)]
    simp [exD, dep]
theorem ok_take (e : List Nod) : ∀ n : Nat, n ≤ e.length → ((∀ i, i < n → exOk e i = true) ↔ okL 0 (e.take n) = true)
  | 0, _ => by simp [okL]
  | n + 1, h => by
    rw [take_gi (by omega), okL_append, ← exD_dep e n (by omega)]
    have ih := ok_take e n (by omega)
    have e1 : okL (exD e n) [gi e (n : Int)] = exOk e n := by
      simp only [okL, nodOk, exOk, Bool.and_true]
    rw [e1, Bool.and_eq_true, ← ih]
    constructor
    · intro h1; exact ⟨fun i hi => h1 i (by omega), h1 n (by omega)⟩
    · rintro ⟨h1, h2⟩ i hi
      rcases Nat.lt_or_ge i n with h3 | h3
      · exact h1 i h3
      · obtain rfl : i = n := by omega
        exact h2
theorem isExpr_iff {e : List Nod} : isExpr e = true ↔ okL 0 e = true ∧ dep 0 e = 1 ∧ e.length ≤ 9 := by
  have h1 := ok_take e e.length (Nat.le_refl _)
  have h2 := exD_dep e e.length (Nat.le_refl _)
  rw [List.take_length] at h1 h2
  constructor
  · intro h
    obtain ⟨a, b, c⟩ := isExpr_ok h
    exact ⟨h1.1 a, by rw [← h2]; exact b, c⟩
  · rintro ⟨a, b, c⟩
    simp only [isExpr, Bool.and_eq_true, decide_eq_true_eq]
    exact ⟨⟨allB_true (h1.2 a), by rw [h2]; exact b⟩, c⟩

/-! ### Trees -/
inductive Tr where
  | leaf (w : Wsh)
  | un (t : Tr)
  | bin (op : Int) (l r : Tr)
def flat : Tr → List Nod
  | .leaf w => [⟨0, w⟩]
  | .un t => flat t ++ [opN 3]
  | .bin op l r => flat l ++ (flat r ++ [opN op])
def Tr.ok : Tr → Prop
  | .leaf w => isWish w = true
  | .un t => t.ok
  | .bin op l r => (op = 1 ∨ op = 2 ∨ op = 4) ∧ l.ok ∧ r.ok
theorem flat_pos : ∀ t : Tr, 0 < (flat t).length
  | .leaf w => by simp [flat]
  | .un t => by simp [flat]
  | .bin op l r => by simp [flat]; omega
theorem opnds_bin {op : Int} (h : op = 1 ∨ op = 2 ∨ op = 4) : opnds op = 2 := by rcases h with rfl | rfl | rfl <;> rfl
theorem nodOk_op {d k : Int} (h : k = 3 ∨ k = 1 ∨ k = 2 ∨ k = 4) (hd : opnds k ≤ d) : nodOk d (opN k) = true := by
  rcases h with rfl | rfl | rfl | rfl <;> simp [nodOk, opN, inR, noWish] <;> exact decide_eq_true hd
theorem flat_ok : ∀ (t : Tr), t.ok → ∀ d : Int, 0 ≤ d → okL d (flat t) = true ∧ dep d (flat t) = d + 1
  | .leaf w, h, d, hd => by
    have : opnds 0 = 0 := rfl
    have h' : isWish w = true := h
    simp [flat, okL, dep, nodOk, inR, this, h', hd]
  | .un t, h, d, hd => by
    obtain ⟨h1, h2⟩ := flat_ok t h d hd
    have e3 : opnds (opN 3).op = 1 := rfl
    rw [flat, okL_append, dep_append, h1, h2]
    simp only [okL, dep, e3, Bool.true_and, Bool.and_true]
    exact ⟨nodOk_op (.inl rfl) (by change (1 : Int) ≤ _; omega), by omega⟩
  | .bin op l r, h, d, hd => by
    obtain ⟨ho, hl, hr⟩ := h
    obtain ⟨h1, h2⟩ := flat_ok l hl d hd
    obtain ⟨h3, h4⟩ := flat_ok r hr (d + 1) (by omega)
    have e3 : opnds (opN op).op = 2 := opnds_bin ho
    rw [flat, okL_append, okL_append, dep_append, dep_append, h1, h2, h3, h4]
    simp only [okL, dep, e3, Bool.true_and, Bool.and_true]
    exact ⟨nodOk_op (.inr (by rcases ho with h | h | h <;> simp [h])) (by rw [opnds_bin ho]; omega), by omega⟩
theorem nod_op {x : Nod} (h : noWish x.wish = true) : x = opN x.op := by
  obtain ⟨op, w⟩ := x
  obtain ⟨k, f, v, l, p⟩ := w
  simp only [noWish, Bool.and_eq_true, decide_eq_true_eq, List.length_eq_zero_iff] at h
  obtain ⟨⟨⟨⟨h1, h2⟩, h3⟩, h4⟩, h5⟩ := h
  subst h1; subst h2; subst h3; subst h4; subst h5; rfl
theorem snoc_of {α : Type} {l : List α} (h : 1 ≤ l.length) : ∃ a b, l = a ++ [b] := by
  rcases List.eq_nil_or_concat l with rfl | ⟨a, b, rfl⟩
  · simp at h
  · exact ⟨a, b, by simp⟩
def flatS (ts : List Tr) : List Nod := ts.flatMap flat
theorem flatS_snoc (ts : List Tr) (t : Tr) : flatS (ts ++ [t]) = flatS ts ++ flat t := by simp [flatS]
theorem parse {e : List Nod} : ∀ n : Nat, n ≤ e.length → (∀ i, i < n → exOk e i = true) → ∃ ts : List Tr, e.take n = flatS ts ∧ (ts.length : Int) = exD e n ∧ ∀ t, t ∈ ts → t.ok
  | 0, _, _ => ⟨[], by simp [flatS], by simp [exD], by simp⟩
  | n + 1, hn, h => by
    obtain ⟨ts, h1, h2, h3⟩ := parse n (by omega) fun i hi => h i (by omega)
    obtain ⟨hop, hd, hw, hnw⟩ := exOk_op (h n (by omega))
    have hx : exD e (n + 1) = exD e n - opnds (gi e (n : Int)).op + 1 := rfl
    rw [take_gi (by omega), h1, hx]
    generalize gi e (n : Int) = x at *
    by_cases h0 : x.op = 0
    · refine ⟨ts ++ [.leaf x.wish], ?_, ?_, ?_⟩
      · rw [flatS_snoc, flat, ← h0]
      · have : opnds x.op = 0 := by rw [h0]; rfl
        simp only [List.length_append, List.length_cons, List.length_nil]; omega
      · intro t ht
        rcases List.mem_append.1 ht with ht | ht
        · exact h3 t ht
        · rw [List.mem_singleton] at ht; subst ht; exact hw h0
    have hxo := nod_op (hnw h0)
    by_cases h3' : x.op = 3
    · have ho : opnds x.op = 1 := by rw [h3']; rfl
      obtain ⟨ts', t, rfl⟩ := snoc_of (l := ts) (by omega)
      refine ⟨ts' ++ [.un t], ?_, ?_, ?_⟩
      · rw [flatS_snoc, flatS_snoc, flat, hxo, h3', List.append_assoc]
      · simp only [List.length_append, List.length_cons, List.length_nil] at h2 ⊢; omega
      · intro u hu
        rcases List.mem_append.1 hu with hu | hu
        · exact h3 u (List.mem_append_left _ hu)
        · rw [List.mem_singleton] at hu; subst hu; exact h3 t (by simp)
    · have hb : x.op = 1 ∨ x.op = 2 ∨ x.op = 4 := by omega
      have ho := opnds_bin hb
      obtain ⟨ts1, r, rfl⟩ := snoc_of (l := ts) (by omega)
      obtain ⟨ts', l, rfl⟩ := snoc_of (l := ts1) (by simp only [List.length_append, List.length_cons, List.length_nil] at h2; omega)
      refine ⟨ts' ++ [.bin x.op l r], ?_, ?_, ?_⟩
      · rw [flatS_snoc, flatS_snoc, flatS_snoc, flat, List.append_assoc, List.append_assoc]
        exact congrArg (fun z => flatS ts' ++ (flat l ++ (flat r ++ [z]))) hxo
      · simp only [List.length_append, List.length_cons, List.length_nil] at h2 ⊢; omega
      · intro u hu
        rcases List.mem_append.1 hu with hu | hu
        · exact h3 u (by simp [hu])
        · rw [List.mem_singleton] at hu; subst hu; exact ⟨hb, h3 l (by simp), h3 r (by simp)⟩
theorem expr_tree {e : List Nod} (h : isExpr e = true) : ∃ T : Tr, e = flat T ∧ T.ok := by
  obtain ⟨h1, h2, _⟩ := isExpr_ok h
  obtain ⟨ts, h3, h4, h5⟩ := parse e.length (Nat.le_refl _) h1
  rw [List.take_length] at h3
  rw [h2] at h4
  obtain ⟨T, rfl⟩ := List.length_eq_one_iff.1 (by omega : ts.length = 1)
  exact ⟨T, by rw [h3]; simp [flatS], h5 T (by simp)⟩
theorem tree_expr {T : Tr} (h : T.ok) (hl : (flat T).length ≤ 9) : isExpr (flat T) = true := by
  obtain ⟨h1, h2⟩ := flat_ok T h 0 (by omega)
  exact isExpr_iff.2 ⟨h1, by rw [h2]; rfl, hl⟩

/-! ### What a tree says of two items -/
def stkL (x y : Itm) (S : List Int) : List Nod → List Int
  | [] => S
  | n :: r => stkL x y (if n.op = 0 then S ++ [itemCmp n.wish x y]
    else if n.op = 3 then S.set (S.length - 1) (dual (gi S ((S.length - 1 : Nat) : Int)))
    else S.take (S.length - 2) ++ [comb n.op (gi S ((S.length - 2 : Nat) : Int)) (gi S ((S.length - 1 : Nat) : Int))]) r
theorem stkL_append (x y : Itm) (a b : List Nod) : ∀ S, stkL x y S (a ++ b) = stkL x y (stkL x y S a) b := by
  induction a with
  | nil => intro S; rfl
  | cons n r ih => intro S; exact ih _
theorem stk_fold (e : List Nod) (x y : Itm) : ∀ n : Nat, n ≤ e.length → stk e x y n = stkL x y [] (e.take n)
  | 0, _ => by simp [stk, stkL]
  | n + 1, h => by
    rw [take_gi (by omega), stkL_append, ← stk_fold e x y n (by omega), stk_succ]; rfl
def Tr.ev (x y : Itm) : Tr → Int
  | .leaf w => itemCmp w x y
  | .un t => dual (t.ev x y)
  | .bin op l r => comb op (l.ev x y) (r.ev x y)
theorem gi_last (S : List Int) (v : Int) : gi (S ++ [v]) (S.length : Int) = v := by
  rw [gi_lt (by simp)]; simp
theorem flat_ev (x y : Itm) : ∀ (t : Tr), t.ok → ∀ S : List Int, stkL x y S (flat t) = S ++ [t.ev x y]
  | .leaf w, _, S => by simp [flat, stkL, Tr.ev]
  | .un t, h, S => by
    rw [flat, stkL_append, flat_ev x y t h S]
    simp only [stkL, opN]
    rw [if_pos trivial]
    have e1 : (S ++ [t.ev x y]).length - 1 = S.length := by simp
    rw [e1, gi_last]
    simp [Tr.ev]
  | .bin op l r, h, S => by
    obtain ⟨ho, hl, hr⟩ := h
    rw [flat, stkL_append, stkL_append, flat_ev x y l hl S, flat_ev x y r hr]
    have n0 : ¬ (opN op).op = 0 := by show ¬ op = 0; omega
    have n3 : ¬ (opN op).op = 3 := by show ¬ op = 3; omega
    simp only [stkL, if_neg n0, if_neg n3]
    have e1 : (S ++ [l.ev x y] ++ [r.ev x y]).length - 1 = (S ++ [l.ev x y]).length := by simp
    have e2 : (S ++ [l.ev x y] ++ [r.ev x y]).length - 2 = S.length := by simp
    have e3 : gi (S ++ [l.ev x y] ++ [r.ev x y]) (S.length : Int) = l.ev x y := by
      rw [gi_lt (by simp)]; simp
    rw [e1, gi_last, e2, e3]
    simp [Tr.ev, opN]
theorem cmpE_ev {T : Tr} (h : T.ok) (x y : Itm) : cmpE (flat T) x y = T.ev x y := by
  rw [cmpE, stk_fold _ _ _ _ (Nat.le_refl _), List.take_length, flat_ev x y T h]; rfl
theorem ev_cmp : ∀ (t : Tr), t.ok → ∀ x y, isCmp (t.ev x y)
  | .leaf w, h, x, y => (itemCmp_ok h).rng x y
  | .un t, h, x, y => by
    rcases ev_cmp t h x y with h | h | h | h <;> simp [Tr.ev, h, dual, isCmp]
  | .bin op l r, h, x, y => by
    obtain ⟨ho, hl, hr⟩ := h
    rcases ho with rfl | rfl | rfl <;> rcases ev_cmp l hl x y with h | h | h | h <;> rcases ev_cmp r hr x y with h' | h' | h' | h' <;> simp [Tr.ev, h, h', comb, isCmp]

/-! ### Places in a tree -/
inductive Cx where
  | hole
  | un (c : Cx)
  | binL (op : Int) (c : Cx) (r : Tr)
  | binR (op : Int) (l : Tr) (c : Cx)
def plug : Cx → Tr → Tr
  | .hole, t => t
  | .un c, t => .un (plug c t)
  | .binL op c r, t => .bin op (plug c t) r
  | .binR op l c, t => .bin op l (plug c t)
def preC : Cx → List Nod
  | .hole => []
  | .un c => preC c
  | .binL _ c _ => preC c
  | .binR _ l c => flat l ++ preC c
def postC : Cx → List Nod
  | .hole => []
  | .un c => postC c ++ [opN 3]
  | .binL op c r => postC c ++ (flat r ++ [opN op])
  | .binR op _ c => postC c ++ [opN op]
theorem flat_plug (t : Tr) : ∀ c : Cx, flat (plug c t) = preC c ++ (flat t ++ postC c)
  | .hole => by simp [plug, preC, postC]
  | .un c => by simp [plug, preC, postC, flat, flat_plug t c]
  | .binL op c r => by simp [plug, preC, postC, flat, flat_plug t c]
  | .binR op l c => by simp [plug, preC, postC, flat, flat_plug t c]
theorem place : ∀ (T : Tr) (p : Nat), p < (flat T).length → ∃ c t, T = plug c t ∧ (preC c).length + (flat t).length = p + 1
  | .leaf w, p, h => ⟨.hole, .leaf w, rfl, by simp [flat] at h; simp [preC, flat, h]⟩
  | .un t, p, h => by
    simp only [flat, List.length_append, List.length_cons, List.length_nil] at h
    rcases Nat.lt_or_ge p (flat t).length with h1 | h1
    · obtain ⟨c, s, rfl, h2⟩ := place t p h1
      exact ⟨.un c, s, rfl, h2⟩
    · exact ⟨.hole, .un t, rfl, by simp [preC, flat]; omega⟩
  | .bin op l r, p, h => by
    simp only [flat, List.length_append, List.length_cons, List.length_nil] at h
    rcases Nat.lt_or_ge p (flat l).length with h1 | h1
    · obtain ⟨c, s, rfl, h2⟩ := place l p h1
      exact ⟨.binL op c r, s, rfl, h2⟩
    · rcases Nat.lt_or_ge p ((flat l).length + (flat r).length) with h3 | h3
      · obtain ⟨c, s, rfl, h2⟩ := place r (p - (flat l).length) (by omega)
        exact ⟨.binR op l c, s, rfl, by simp only [preC, List.length_append]; omega⟩
      · exact ⟨.hole, .bin op l r, rfl, by simp [preC, flat]; omega⟩
theorem plug_ok {t : Tr} : ∀ {c : Cx}, (plug c t).ok → t.ok
  | .hole, h => h
  | .un c, h => plug_ok (c := c) h
  | .binL op c r, h => plug_ok (c := c) h.2.1
  | .binR op l c, h => plug_ok (c := c) h.2.2
theorem plug_ok' {t t' : Tr} (ht : t'.ok) : ∀ {c : Cx}, (plug c t).ok → (plug c t').ok
  | .hole, _ => ht
  | .un c, h => plug_ok' (c := c) ht h
  | .binL op c r, h => ⟨h.1, plug_ok' (c := c) ht h.2.1, h.2.2⟩
  | .binR op l c, h => ⟨h.1, h.2.1, plug_ok' (c := c) ht h.2.2⟩
theorem plug_ev {t t' : Tr} {x y : Itm} (h : t'.ev x y = t.ev x y) : ∀ c : Cx, (plug c t').ev x y = (plug c t).ev x y
  | .hole => h
  | .un c => by simp only [plug, Tr.ev, plug_ev h c]
  | .binL op c r => by simp only [plug, Tr.ev, plug_ev h c]
  | .binR op l c => by simp only [plug, Tr.ev, plug_ev h c]
def Tr.bins : Tr → Nat
  | .leaf _ => 0
  | .un t => t.bins
  | .bin _ l r => l.bins + r.bins + 1
def Tr.ms : Tr → Nat
  | .leaf _ => 0
  | .un t => t.ms + 2 * t.bins + 1
  | .bin _ l r => l.ms + r.ms + 1
theorem plug_ms {t t' : Tr} (hb : t'.bins ≤ t.bins) (hm : t'.ms < t.ms) : ∀ c : Cx, (plug c t').bins ≤ (plug c t).bins ∧ (plug c t').ms < (plug c t).ms
  | .hole => ⟨hb, hm⟩
  | .un c => by have := plug_ms hb hm c; simp only [plug, Tr.bins, Tr.ms]; omega
  | .binL op c r => by have := plug_ms hb hm c; simp only [plug, Tr.bins, Tr.ms]; omega
  | .binR op l c => by have := plug_ms hb hm c; simp only [plug, Tr.bins, Tr.ms]; omega
def Tr.uns : Tr → Nat
  | .leaf _ => 0
  | .un t => t.uns + 1
  | .bin _ l r => l.uns + r.uns
theorem tr_size : ∀ T : Tr, (flat T).length = T.uns + 2 * T.bins + 1
  | .leaf w => by simp [flat, Tr.uns, Tr.bins]
  | .un t => by simp only [flat, List.length_append, List.length_cons, List.length_nil, tr_size t, Tr.uns, Tr.bins]; omega
  | .bin op l r => by simp only [flat, List.length_append, List.length_cons, List.length_nil, tr_size l, tr_size r, Tr.uns, Tr.bins]; omega
theorem ms_le : ∀ T : Tr, T.ms ≤ T.bins + T.uns * (1 + 2 * T.bins)
  | .leaf w => by simp [Tr.ms]
  | .un t => by
    have := ms_le t
    simp only [Tr.ms, Tr.bins, Tr.uns, Nat.add_mul, Nat.one_mul] at *; omega
  | .bin op l r => by
    have h1 := ms_le l
    have h2 := ms_le r
    simp only [Tr.ms, Tr.bins, Tr.uns]
    have h3 : l.uns * (1 + 2 * l.bins) ≤ l.uns * (1 + 2 * (l.bins + r.bins + 1)) := Nat.mul_le_mul_left _ (by omega)
    have h4 : r.uns * (1 + 2 * r.bins) ≤ r.uns * (1 + 2 * (l.bins + r.bins + 1)) := Nat.mul_le_mul_left _ (by omega)
    rw [Nat.add_mul]; omega
theorem ms_bd {T : Tr} (h : (flat T).length ≤ 9) : T.ms ≤ 59 := by
  have h1 := ms_le T
  rw [tr_size] at h
  have hb : T.bins ≤ 4 := by omega
  have hu : T.uns ≤ 8 := by omega
  generalize T.bins = b at *
  generalize T.uns = u at *
  rcases (show b = 0 ∨ b = 1 ∨ b = 2 ∨ b = 3 ∨ b = 4 by omega) with rfl | rfl | rfl | rfl | rfl <;> omega

def runT (S : List Tr) : List Nod → List Tr
  | [] => S
  | n :: r => runT (if n.op = 0 then .leaf n.wish :: S else if n.op = 3 then (match S with | t :: S' => .un t :: S' | [] => []) else (match S with | t :: u :: S' => .bin n.op u t :: S' | _ => [])) r
theorem runT_append (a b : List Nod) : ∀ S, runT S (a ++ b) = runT (runT S a) b := by
  induction a with
  | nil => intro S; rfl
  | cons n r ih => intro S; exact ih _
theorem runT_flat : ∀ (t : Tr), t.ok → ∀ S, runT S (flat t) = t :: S
  | .leaf w, _, S => rfl
  | .un t, h, S => by rw [flat, runT_append, runT_flat t h]; rfl
  | .bin op l r, h, S => by
    obtain ⟨ho, hl, hr⟩ := h
    rw [flat, runT_append, runT_append, runT_flat l hl, runT_flat r hr]
    rcases ho with rfl | rfl | rfl <;> rfl
theorem flat_inj {T U : Tr} (hT : T.ok) (hU : U.ok) (h : flat T = flat U) : T = U := by
  have h1 := runT_flat T hT []
  rw [h, runT_flat U hU] at h1
  simpa using h1.symm

/-! ### Where a part begins -/
def stR : List Nod → Int → Nat
  | [], _ => 0
  | x :: r, need => if need - 1 + opnds x.op = 0 then r.length else stR r (need - 1 + opnds x.op)
def hitR : List Nod → Int → Prop
  | [], _ => False
  | x :: r, need => need - 1 + opnds x.op = 0 ∨ hitR r (need - 1 + opnds x.op)
def st (e : List Nod) (n : Nat) : Nat := stR (e.take n).reverse 1
theorem stR_flat : ∀ (t : Tr), t.ok → ∀ (P : List Nod) (k : Int), 1 ≤ k → (stR ((flat t).reverse ++ P) k = if k = 1 then P.length else stR P (k - 1)) ∧ (k = 1 ∨ hitR P (k - 1) → hitR ((flat t).reverse ++ P) k)
  | .leaf w, _, P, k, hk => by
    have e0 : opnds 0 = 0 := rfl
    simp only [flat, List.reverse_cons, List.reverse_nil, List.nil_append, List.cons_append, stR, hitR, e0, Int.add_zero]
    constructor
    · by_cases h : k = 1
      · rw [if_pos h, if_pos (by omega)]
      · rw [if_neg h, if_neg (by omega)]
    · rintro (h | h)
      · exact .inl (by omega)
      · exact .inr h
  | .un t, h, P, k, hk => by
    have e3 : opnds (opN 3).op = 1 := rfl
    have := stR_flat t h P k hk
    simp only [flat, List.reverse_append, List.reverse_cons, List.reverse_nil, List.nil_append, List.cons_append, stR, hitR, e3]
    rw [show k - 1 + 1 = k by omega, if_neg (by omega)]
    exact ⟨this.1, fun hh => .inr (this.2 hh)⟩
  | .bin op l r, h, P, k, hk => by
    obtain ⟨ho, hl, hr⟩ := h
    have e3 : opnds (opN op).op = 2 := opnds_bin ho
    have h1 := stR_flat r hr ((flat l).reverse ++ P) (k + 1) (by omega)
    have h2 := stR_flat l hl P k hk
    simp only [flat, List.reverse_append, List.reverse_cons, List.reverse_nil, List.nil_append, List.cons_append, stR, hitR, e3, List.append_assoc]
    rw [show k - 1 + 2 = k + 1 by omega, if_neg (by omega)]
    rw [if_neg (by omega), show k + 1 - 1 = k by omega] at h1
    exact ⟨h1.1.trans h2.1, fun hh => .inr (h1.2 (.inr (h2.2 hh)))⟩
theorem st_at {e A B : List Nod} {t : Tr} (ht : t.ok) {n : Nat} (he : e.take n = A ++ flat t) : st e n = A.length ∧ hitR (e.take n).reverse 1 := by
  have h := stR_flat t ht A.reverse 1 (by omega)
  rw [if_pos rfl, List.length_reverse] at h
  rw [st, he, List.reverse_append]
  exact ⟨h.1, h.2 (.inl rfl)⟩
end Go.E

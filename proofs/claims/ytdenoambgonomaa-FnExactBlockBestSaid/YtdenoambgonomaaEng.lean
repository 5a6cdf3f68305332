/-
  The engine: step lemmas over the kit's Code.wp and wpList, with the frame as a list of the slots that are known.
  Conditions: none; every lemma is over any program.
-/
import Derived.WalkKit
import Derived.Laws.CopyRow
import Derived.Laws.Cells
import Derived.Laws.Tables
set_option linter.unusedVariables false
set_option linter.unusedSimpArgs false
namespace Go.E
open Go Go.RowKit

/-! ### Frames as lists of slots -/

abbrev Env := List (Nat × Value)

def find : Env → Nat → Option Value
  | [], _ => none
  | (k, v) :: r, t => bif Nat.beq k t then some v else find r t

structure Sat (N : Nat) (e : Env) (a : Act) : Prop where
  defers : a.defers = []
  size : a.tmps.size = N
  val : ∀ t v, find e t = some v → t < N ∧ a.tmps.getD t undef = v

def ev (e : Env) : Operand → Option Value
  | .tmp t => find e t
  | .const v => some v
  | .global g => some (.pointer (some ⟨g, 0, none⟩))
  | .func f => some (.func (.func f) #[] #[])

theorem Sat.ev {N : Nat} {e : Env} {a : Act} (h : Sat N e a) {x : Operand} {v : Value} (hx : ev e x = some v) : a.eval x = v := by
  cases x with
  | tmp t => exact (h.val t v hx).2
  | const c => simpa [E.ev, Act.eval] using hx
  | global g => simpa [E.ev, Act.eval] using hx
  | func f => simpa [E.ev, Act.eval] using hx

def dstOk (N : Nat) : Option Tmp → Bool
  | none => true
  | some d => Nat.blt d N

def bnd (dst : Option Tmp) (v : Value) (e : Env) : Env :=
  match dst with
  | none => e
  | some d => (d, v) :: e

theorem Sat.put {N : Nat} {e : Env} {a : Act} (h : Sat N e a) {dst : Option Tmp} (hd : dstOk N dst = true) (v : Value) : Sat N (bnd dst v e) (a.put dst v) := by
  cases dst with
  | none => exact h
  | some d =>
    have hd' : d < N := Nat.le_of_ble_eq_true hd
    refine ⟨h.defers, by simp [Act.put, h.size], fun t u hu => ?_⟩
    simp only [bnd, find] at hu
    rcases Bool.eq_false_or_eq_true (Nat.beq d t) with ht | hf
    · have htd : d = t := Nat.eq_of_beq_eq_true ht
      rw [ht] at hu
      subst htd
      have hu' : v = u := by simpa using hu
      subst hu'
      exact ⟨hd', by simp [Act.put, h.size, hd']⟩
    · rw [hf] at hu
      have hne : d ≠ t := fun e => by subst e; simp at hf
      have := h.val t u (by simpa using hu)
      refine ⟨this.1, ?_⟩
      rw [← this.2]
      simp [Act.put, Array.getD_eq_getD_getElem?, Array.getElem?_setIfInBounds, hne]

/-- a part of a frame is known by a larger one -/
def Has : Env → Env → Prop
  | [], _ => True
  | (t, v) :: r, e => find e t = some v ∧ Has r e

theorem Has.find {e1 e2 : Env} (h : Has e1 e2) : ∀ t v, find e1 t = some v → find e2 t = some v := by
  induction e1 with
  | nil => intro t v hv; simp [E.find] at hv
  | cons p r ih =>
    obtain ⟨k, u⟩ := p
    intro t v hv
    simp only [E.find] at hv
    rcases Bool.eq_false_or_eq_true (Nat.beq k t) with ht | hf
    · rw [ht] at hv
      have htd : k = t := Nat.eq_of_beq_eq_true ht
      have hv' : u = v := by simpa using hv
      subst htd; subst hv'
      exact h.1
    · rw [hf] at hv
      exact ih h.2 t v (by simpa using hv)

theorem Sat.sub {N : Nat} {e1 e2 : Env} {a : Act} (h : Sat N e2 a) (hs : Has e1 e2) : Sat N e1 a :=
  ⟨h.defers, h.size, fun t v hv => h.val t v (hs.find t v hv)⟩

theorem find_int {e : Env} {t : Nat} {a b : Int} (h : find e t = some (.int .i64 a)) (hab : a = b) : find e t = some (.int .i64 b) := hab ▸ h

/-! ### The walk of a code -/

abbrev Post := Exit → Env → World → Prop

def up (N : Nat) (Q : Post) : Exit → Act → World → Prop := fun x a w => ∃ e, Sat N e a ∧ Q x e w

def W (P : Program) (N : Nat) (c : Code) (Q : Post) (e : Env) (w : World) : Prop :=
  ∀ a, Sat N e a → c.wp P (up N Q) a w

def WL (P : Program) (N : Nat) (ops : Array Oper) (Q : Post) (l : List Oper) (e : Env) (w : World) : Prop :=
  ∀ a, Sat N e a → wpList P ops (up N Q) l a w

def thenE (K : Env → World → Prop) (Q : Post) : Post
  | .normal, e, w => K e w
  | x, e, w => Q x e w

def inE (id : Nat) (Q : Post) : Post
  | .exit id', e, w => bif Nat.beq id' id then Q .normal e w else Q (.exit id') e w
  | x, e, w => Q x e w

section
variable {P : Program} {N : Nat} {Q : Post} {e : Env} {w : World}

theorem W_sub {c : Code} {e' : Env} (hs : Has e' e) (h : W P N c Q e' w) : W P N c Q e w :=
  fun a ha => h a (ha.sub hs)

theorem W_mono {c : Code} {Q' : Post} (h : W P N c Q' e w) (hq : ∀ x e w, Q' x e w → Q x e w) : W P N c Q e w :=
  fun a ha => wp_mono (h a ha) fun _ _ _ ⟨e', hs, q⟩ => ⟨e', hs, hq _ _ _ q⟩

theorem W_seq {x y : Code} (h : W P N x (thenE (W P N y Q) Q) e w) : W P N (.seq x y) Q e w := by
  intro a ha
  refine wp_seq (wp_mono (h a ha) fun ex a' w' q => ?_)
  obtain ⟨e', hs, hq⟩ := q
  cases ex with
  | normal => exact hq a' hs
  | exit id => exact ⟨e', hs, hq⟩
  | goto l => exact ⟨e', hs, hq⟩
  | ret => exact ⟨e', hs, hq⟩
  | panic ch => exact ⟨e', hs, hq⟩
  | outgrown => exact ⟨e', hs, hq⟩

theorem W_skip (h : Q .normal e w) : W P N .skip Q e w := fun _ ha => wp_skip ⟨e, ha, h⟩
theorem W_exit {id : Nat} (h : Q (.exit id) e w) : W P N (.exit id) Q e w := fun _ ha => wp_exit ⟨e, ha, h⟩
theorem W_ret (h : Q .ret e w) : W P N .ret Q e w := fun _ ha => wp_ret ⟨e, ha, h⟩

theorem W_block {id : Nat} {c : Code} (h : W P N c (inE id Q) e w) : W P N (.block id c) Q e w := by
  intro a ha
  refine wp_block (wp_mono (h a ha) fun ex a' w' q => ?_)
  obtain ⟨e', hs, hq⟩ := q
  cases ex with
  | normal => exact ⟨e', hs, hq⟩
  | exit id' =>
    simp only [Exit.inBlock]
    simp only [inE] at hq
    by_cases hi : id' = id
    · subst hi
      rw [if_pos rfl]
      exact ⟨e', hs, by simpa using hq⟩
    · rw [if_neg hi]
      have hf : Nat.beq id' id = false := by
        cases hb : Nat.beq id' id with
        | false => rfl
        | true => exact absurd (Nat.eq_of_beq_eq_true hb) hi
      rw [hf] at hq
      exact ⟨e', hs, by simpa using hq⟩
  | goto l => exact ⟨e', hs, hq⟩
  | ret => exact ⟨e', hs, hq⟩
  | panic ch => exact ⟨e', hs, hq⟩
  | outgrown => exact ⟨e', hs, hq⟩

theorem W_cond {c : Operand} {x y : Code} {t : Bool} (hc : ev e c = some (.bool t)) (h1 : t = true → W P N x Q e w) (h0 : t = false → W P N y Q e w) : W P N (.cond c x y) Q e w :=
  fun a ha => wp_cond_split (ha.ev hc) (fun h => h1 h a ha) (fun h => h0 h a ha)
theorem W_cond_t {c : Operand} {x y : Code} (hc : ev e c = some (.bool true)) (h : W P N x Q e w) : W P N (.cond c x y) Q e w :=
  fun a ha => wp_cond_true (ha.ev hc) (h a ha)
theorem W_cond_f {c : Operand} {x y : Code} (hc : ev e c = some (.bool false)) (h : W P N y Q e w) : W P N (.cond c x y) Q e w :=
  fun a ha => wp_cond_false (ha.ev hc) (h a ha)

theorem W_region {id : Nat} {l : List Oper} (h : WL P N l.toArray Q l e w) : W P N (.region id l.toArray false) Q e w :=
  fun a ha => wp_region_lit (h a ha)

/-- a loop: the frame's live slots as a function of a state, a relation on the world, a measure -/
theorem W_loop {S : Type} {c : Code} (E : S → Env) (I : S → World → Prop) (μ : S → Nat) (s0 : S)
    (h0 : Has (E s0) e) (hI : I s0 w)
    (round : ∀ s w, I s w → W P N c (thenE (fun e' w' => ∃ s', Has (E s') e' ∧ I s' w' ∧ μ s' < μ s) Q) (E s) w) :
    W P N (.loop c) Q e w := by
  intro a ha b k cs
  have key : ∀ n s a w, μ s = n → Sat N (E s) a → I s w →
      ∃ ex a' w', up N Q ex a' w' ∧ Arrives P (lone (b.at a (.code c :: .inLoop c :: k)) cs w) b k cs ex a' w' := by
    intro n
    induction n using Nat.strongRecOn with
    | _ n ih =>
      intro s a w hn hs hi
      obtain ⟨ex, a₁, w₁, ⟨e₁, hs₁, hq⟩, harr⟩ := round s w hi a hs b (.inLoop c :: k) cs
      cases ex with
      | normal =>
        obtain ⟨s', hh, hi', hlt⟩ := hq
        obtain ⟨ex₂, a₂, w₂, hq₂, harr₂⟩ := ih (μ s') (hn ▸ hlt) s' a₁ w₁ rfl (hs₁.sub hh) hi'
        exact ⟨ex₂, a₂, w₂, hq₂, .of_steps (Steps.trans harr (.one step_inLoop)) harr₂⟩
      | exit id => exact ⟨_, a₁, w₁, ⟨e₁, hs₁, hq⟩, .pass (x := .inLoop c) rfl (fun _ _ => .inl (by simp)) harr⟩
      | goto l => exact ⟨_, a₁, w₁, ⟨e₁, hs₁, hq⟩, .pass (x := .inLoop c) rfl (fun _ _ => .inl (by simp)) harr⟩
      | ret => exact ⟨_, a₁, w₁, ⟨e₁, hs₁, hq⟩, .pass (x := .inLoop c) rfl (fun _ _ => .inl (by simp)) harr⟩
      | panic ch => exact ⟨_, a₁, w₁, ⟨e₁, hs₁, hq⟩, .pass (x := .inLoop c) rfl (fun _ _ => .inl (by simp)) harr⟩
      | outgrown => exact ⟨_, a₁, w₁, ⟨e₁, hs₁, hq⟩, .pass (x := .inLoop c) rfl (fun _ _ => .inl (by simp)) harr⟩
  obtain ⟨ex, a', w', hq, harr⟩ := key _ s0 a w rfl (ha.sub h0) hI
  exact ⟨ex, a', w', hq, .of_steps (.one step_loop) harr⟩

end

section
variable {K : Env → World → Prop} {Q : Post} {e : Env} {w : World} {id id' : Nat}
theorem then_normal (h : K e w) : thenE K Q .normal e w := h
theorem then_exit (h : Q (.exit id) e w) : thenE K Q (.exit id) e w := h
theorem then_ret (h : Q .ret e w) : thenE K Q .ret e w := h
theorem in_normal (h : Q .normal e w) : inE id Q .normal e w := h
theorem in_ret (h : Q .ret e w) : inE id Q .ret e w := h
theorem in_hit (hb : Nat.beq id' id = true) (h : Q .normal e w) : inE id Q (.exit id') e w := by
  show (bif Nat.beq id' id then _ else _); rw [hb]; exact h
theorem in_miss (hb : Nat.beq id' id = false) (h : Q (.exit id') e w) : inE id Q (.exit id') e w := by
  show (bif Nat.beq id' id then _ else _); rw [hb]; exact h
end

/-! ### The operations of a region -/

/-- what a guard says in a frame: carried out, passed over, or not known -/
def gd (ops : Array Oper) (e : Env) : Option (Nat × Bool) → Option Bool
  | none => some true
  | some (j, want) =>
    match (ops[j]?).bind (·.dst) with
    | none => some false
    | some t =>
      match find e t with
      | some (.bool b) => some (b == want)
      | some _ => some false
      | none => none

theorem Sat.wanted {N : Nat} {e : Env} {a : Act} (h : Sat N e a) {ops : Array Oper} {o : Oper} {r : Bool} (hg : gd ops e o.guard = some r) : Region.wanted o (yielded ops a.tmps) = r := by
  unfold Region.wanted
  unfold gd at hg
  cases hgd : o.guard with
  | none => rw [hgd] at hg; simpa using hg
  | some p =>
    obtain ⟨j, want⟩ := p
    rw [hgd] at hg
    simp only at hg
    simp only
    unfold yielded
    cases hd : (ops[j]?).bind (·.dst) with
    | none =>
      simp only [hd, Option.some.injEq] at hg
      rw [← hg]; simp
    | some t =>
      simp only [hd] at hg
      cases hf : find e t with
      | none => simp only [hf] at hg; cases hg
      | some v =>
        obtain ⟨hlt, hv⟩ := h.val t v hf
        have ht : a.tmps[t]? = some v := by
          rw [Array.getD_eq_getD_getElem?] at hv
          rw [Array.getElem?_eq_getElem (by rw [h.size]; exact hlt)] at hv ⊢
          simpa using hv
        simp only [hf] at hg
        simp only [Option.bind_some, ht]
        cases v with
        | bool b => simp only [Option.some.injEq] at hg; rw [← hg]; rfl
        | _ => simp only [Option.some.injEq] at hg; rw [← hg]; rfl

section
variable {P : Program} {N : Nat} {ops : Array Oper} {Q : Post} {rest : List Oper} {e : Env} {w w' : World}

theorem WL_sub {l : List Oper} {e' : Env} (hs : Has e' e) (h : WL P N ops Q l e' w) : WL P N ops Q l e w :=
  fun a ha => h a (ha.sub hs)

theorem WL_nil (h : Q .normal e w) : WL P N ops Q [] e w := fun _ ha => wpList_nil ⟨e, ha, h⟩

theorem WL_pass {o : Oper} (hg : gd ops e o.guard = some false) (hd : dstOk N o.dst = true) (k : WL P N ops Q rest (bnd o.dst undef e) w) : WL P N ops Q (o :: rest) e w :=
  fun a ha => wpList_skip (ha.wanted hg) (k _ (ha.put hd _))

theorem WL_do {o : Oper} (hg : gd ops e o.guard = some true) (h : ∀ a, Sat N e a → o.wp P a w (wpList P ops (up N Q) rest) (up N Q)) : WL P N ops Q (o :: rest) e w := by
  intro a ha
  unfold wpList
  rw [if_pos (ha.wanted hg)]
  exact .inl (h a ha)

theorem WL_val {o : Oper} {v : Value} (hg : gd ops e o.guard = some true) (hd : dstOk N o.dst = true)
    (hr : ∀ a, Sat N e a → (execOp a.eval o).run P w = .ok (.value v) w') (k : WL P N ops Q rest (bnd o.dst v e) w') : WL P N ops Q (o :: rest) e w :=
  WL_do hg fun a ha => by
    unfold Oper.wp
    rw [hr a ha]
    exact k _ (ha.put hd _)

theorem WL_unit {o : Oper} (hg : gd ops e o.guard = some true) (hd : dstOk N o.dst = true)
    (hr : ∀ a, Sat N e a → (execOp a.eval o).run P w = .ok .skip w') (k : WL P N ops Q rest (bnd o.dst undef e) w') : WL P N ops Q (o :: rest) e w :=
  WL_do hg fun a ha => by
    unfold Oper.wp
    rw [hr a ha]
    exact k _ (ha.put hd _)

theorem WL_sub' {l : List Oper} {e e' : Env} (hs : ∀ t v, find e' t = some v → find e t = some v) (h : WL P N ops Q l e' w) : WL P N ops Q l e w :=
  fun a ha => h a ⟨ha.defers, ha.size, fun t v hv => ha.val t v (hs t v hv)⟩
/-- a guard that is not decided: both ways, with the guard's slot decided in each -/
theorem WL_part0 {o : Oper} {t : Nat} {b : Bool} (hv : find e t = some (.bool b))
    (h1 : b = true → WL P N ops Q (o :: rest) ((t, .bool true) :: e) w) (h0 : b = false → WL P N ops Q (o :: rest) ((t, .bool false) :: e) w) : WL P N ops Q (o :: rest) e w := by
  cases b with
  | true =>
    refine WL_sub' ?_ (h1 rfl)
    intro t' v' h'
    simp only [find] at h'
    rcases Bool.eq_false_or_eq_true (Nat.beq t t') with ht | hf
    · rw [ht] at h'
      have := Nat.eq_of_beq_eq_true ht
      subst this
      rw [hv]; simpa using h'
    · rw [hf] at h'; simpa using h'
  | false =>
    refine WL_sub' ?_ (h0 rfl)
    intro t' v' h'
    simp only [find] at h'
    rcases Bool.eq_false_or_eq_true (Nat.beq t t') with ht | hf
    · rw [ht] at h'
      have := Nat.eq_of_beq_eq_true ht
      subst this
      rw [hv]; simpa using h'
    · rw [hf] at h'; simpa using h'
theorem WL_part {d : Option Tmp} {op : Op} {ty : TypeId} {pos : String} {af : Array Edge} {j : Nat} {want : Bool} {t : Nat} {b : Bool} (ht : (ops[j]?).bind (·.dst) = some t) (hv : find e t = some (.bool b))
    (h1 : b = true → WL P N ops Q (⟨d, op, ty, pos, af, some (j, want)⟩ :: rest) ((t, .bool true) :: e) w) (h0 : b = false → WL P N ops Q (⟨d, op, ty, pos, af, some (j, want)⟩ :: rest) ((t, .bool false) :: e) w) :
    WL P N ops Q (⟨d, op, ty, pos, af, some (j, want)⟩ :: rest) e w := WL_part0 hv h1 h0
end

/-! ### Calls and contracts -/

def CallOk (P : Program) (f : FuncId) : Prop :=
  (P.funcs[f]?).any (fun fn => !(fn.name == "runtime.NumGoroutine") && fn.body.isSome) = true

structure Run (P : Program) (f : FuncId) (args : List Value) (w : World) (R : Value → World → Prop) : Prop where
  ok : CallOk P f
  calls : Calls P f args.toArray w fun en w' => ∃ v, en = .returned v ∧ R v w'

theorem Run.mono {P : Program} {f : FuncId} {args : List Value} {w : World} {R R' : Value → World → Prop} (h : Run P f args w R) (hr : ∀ v w', R v w' → R' v w') : Run P f args w R' :=
  ⟨h.ok, h.calls.mono fun _ _ ⟨v, he, hR⟩ => ⟨v, he, hr _ _ hR⟩⟩

theorem run_callFunc_ok {P : Program} {f : FuncId} (h : CallOk P f) (args : Array Value) (w : World) : (callFunc f args).run P w = .ok (.enter f args) w := by
  unfold CallOk at h
  cases hf : P.funcs[f]? with
  | none => simp [hf] at h
  | some fn =>
    simp only [hf, Option.any_some, Bool.and_eq_true, Bool.not_eq_true', beq_eq_false_iff_ne] at h
    obtain ⟨h1, h2⟩ := h
    have h3 : fn.body.isNone = false := by cases hb : fn.body <;> simp_all
    have h4 : (fn.name == "runtime.NumGoroutine") = false := by simpa using h1
    have hp : ∀ (w : World), (program).run P w = .ok P w := fun _ => rfl
    unfold callFunc
    rw [Sem.run_bind, hp, Result.andThen_ok, hf]
    simp only [h4, h3, Bool.false_eq_true, if_false]
    rfl

def penv : Nat → List Value → Env
  | _, [] => []
  | i, v :: r => (i, v) :: penv (i + 1) r

theorem find_penv (vs : List Value) : ∀ (i t : Nat) (v : Value), find (penv i vs) t = some v → i ≤ t ∧ vs[t - i]? = some v := by
  induction vs with
  | nil => intro i t v h; simp [penv, find] at h
  | cons u r ih =>
    intro i t v h
    simp only [penv, find] at h
    rcases Bool.eq_false_or_eq_true (Nat.beq i t) with ht | hf
    · have := Nat.eq_of_beq_eq_true ht
      rw [ht] at h
      subst this
      exact ⟨Nat.le_refl _, by simpa using h⟩
    · rw [hf] at h
      have hne : i ≠ t := fun e => by subst e; simp at hf
      obtain ⟨h1, h2⟩ := ih (i + 1) t v (by simpa using h)
      refine ⟨by omega, ?_⟩
      rw [show t - i = (t - (i + 1)) + 1 by omega]
      simpa using h2

/-- what a function hands back -/
def retQ (P : Program) (N : Nat) (fn : Func) (R : Value → World → Prop) : Post
  | .ret, e, w | .normal, e, w => ∃ v, (∀ a, Sat N e a → (results fn a.tmps).run P w = .ok v w) ∧ R v w
  | _, _, _ => False

theorem Run_intro {P : Program} {f : FuncId} {fn : Func} {c : Code} {N : Nat} {args : List Value} {w : World} {R : Value → World → Prop}
    (hf : P.funcs[f]? = some fn) (hok : CallOk P f) (hb : fn.body = some c) (hn : fn.ntmps = N) (hargs : args.length ≤ N)
    (h : W P N c (retQ P N fn R) (penv 0 args) w) : Run P f args w R := by
  refine ⟨hok, calls_of_wp hf hb ?_⟩
  have hsat : Sat N (penv 0 args) { tmps := args.toArray ++ Array.replicate (fn.ntmps - args.toArray.size) undef, defers := [] } := by
    refine ⟨rfl, by simp [hn]; omega, fun t v hv => ?_⟩
    obtain ⟨_, h2⟩ := find_penv args 0 t v hv
    simp only [Nat.sub_zero] at h2
    have hlt : t < args.length := by
      rcases Nat.lt_or_ge t args.length with h | h
      · exact h
      · rw [List.getElem?_eq_none h] at h2; cases h2
    refine ⟨by omega, ?_⟩
    rw [Array.getD_eq_getD_getElem?, Array.getElem?_append_left (by simpa using hlt)]
    simp [h2]
  refine wp_mono (h _ hsat) fun ex a w' q => ?_
  obtain ⟨e', hs, hq⟩ := q
  cases ex with
  | normal => obtain ⟨v, hr, hR⟩ := hq; exact ⟨hs.defers, v, hr a hs, v, rfl, hR⟩
  | ret => obtain ⟨v, hr, hR⟩ := hq; exact ⟨hs.defers, v, hr a hs, v, rfl, hR⟩
  | exit id => exact hq.elim
  | goto l => exact hq.elim
  | panic ch => exact hq.elim
  | outgrown => exact hq.elim

section
variable {P : Program} {N : Nat} {fn : Func} {R : Value → World → Prop} {e : Env} {w : World}
theorem ret1 {t : Tmp} {v : Value} (hr : fn.results = #[.tmp t]) (hv : find e t = some v) (h : R v w) : retQ P N fn R .ret e w :=
  ⟨v, fun a ha => by rw [results_tmp hr]; rw [(ha.val t v hv).2], h⟩
theorem ret1n {t : Tmp} {v : Value} (hr : fn.results = #[.tmp t]) (hv : find e t = some v) (h : R v w) : retQ P N fn R .normal e w :=
  ⟨v, fun a ha => by rw [results_tmp hr]; rw [(ha.val t v hv).2], h⟩
theorem ret2 {t u : Tmp} {v x : Value} (hr : fn.results = #[.tmp t, .tmp u]) (hv : find e t = some v) (hx : find e u = some x) (h : R (.tuple #[v, x]) w) : retQ P N fn R .ret e w :=
  ⟨_, fun a ha => by rw [results_tmp2 hr]; rw [(ha.val t v hv).2, (ha.val u x hx).2], h⟩
theorem ret3 {t u s : Tmp} {v x y : Value} (hr : fn.results = #[.tmp t, .tmp u, .tmp s]) (hv : find e t = some v) (hx : find e u = some x) (hy : find e s = some y) (h : R (.tuple #[v, x, y]) w) : retQ P N fn R .ret e w :=
  ⟨_, fun a ha => by
    have h1 := (ha.val t v hv).2
    have h2 := (ha.val u x hx).2
    have h3 := (ha.val s y hy).2
    simp only [Array.getD_eq_getD_getElem?] at h1 h2 h3
    simp [results, hr, h1, h2, h3], h⟩
theorem ret0 (hr : fn.results = #[]) (h : R (.tuple #[]) w) : retQ P N fn R .ret e w :=
  ⟨_, fun a _ => results_none hr _ _ _, h⟩
theorem ret0n (hr : fn.results = #[]) (h : R (.tuple #[]) w) : retQ P N fn R .normal e w :=
  ⟨_, fun a _ => results_none hr _ _ _, h⟩
end

end Go.E

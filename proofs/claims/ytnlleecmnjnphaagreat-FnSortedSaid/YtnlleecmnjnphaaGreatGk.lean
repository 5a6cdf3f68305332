/-
  Several of my texts in one: Eng Ops Mem Mak Sh. Conditions: as stated at each.
-/
import Derived.WalkKit
import Derived.Laws.CopyRow
import Derived.Laws.Cells
import Derived.Laws.Tables
import Derived.Deep.Quiet
import Derived.OrdersHeld
import Derived.KernelRfl
import Derived.Maps.AppendAt
set_option linter.unusedVariables false
set_option linter.unusedSimpArgs false
namespace Go.E
open Go Go.RowKit

/-! ### Frames as lists of slots -/

abbrev Env := List (Nat × Value)

def find : Env → Nat → Option Value
  | [], _ => none
  | (k, v) :: r, t => bif Nat.beq k t then some v else find r t

structure Sat (N : Nat) (e : Env) (a : Act) : Prop where
  defers : a.defers = []
  size : a.tmps.size = N
  val : ∀ t v, find e t = some v → t < N ∧ a.tmps.getD t undef = v

def ev (e : Env) : Operand → Option Value
  | .tmp t => find e t
  | .const v => some v
  | .global g => some (.pointer (some ⟨g, 0, none⟩))
  | .func f => some (.func (.func f) #[] #[])

theorem Sat.ev {N : Nat} {e : Env} {a : Act} (h : Sat N e a) {x : Operand} {v : Value} (hx : ev e x = some v) : a.eval x = v := by
  cases x with
  | tmp t => exact (h.val t v hx).2
  | const c => simpa [E.ev, Act.eval] using hx
  | global g => simpa [E.ev, Act.eval] using hx
  | func f => simpa [E.ev, Act.eval] using hx

def dstOk (N : Nat) : Option Tmp → Bool
  | none => true
  | some d => Nat.blt d N

def bnd (dst : Option Tmp) (v : Value) (e : Env) : Env :=
  match dst with
  | none => e
  | some d => (d, v) :: e

theorem Sat.put {N : Nat} {e : Env} {a : Act} (h : Sat N e a) {dst : Option Tmp} (hd : dstOk N dst = true) (v : Value) : Sat N (bnd dst v e) (a.put dst v) := by
  cases dst with
  | none => exact h
  | some d =>
    have hd' : d < N := Nat.le_of_ble_eq_true hd
    refine ⟨h.defers, by simp [Act.put, h.size], fun t u hu => ?_⟩
    simp only [bnd, find] at hu
    rcases Bool.eq_false_or_eq_true (Nat.beq d t) with ht | hf
    · have htd : d = t := Nat.eq_of_beq_eq_true ht
      rw [ht] at hu
      subst htd
      have hu' : v = u := by simpa using hu
      subst hu'
      exact ⟨hd', by simp [Act.put, h.size, hd']⟩
    · rw [hf] at hu
      have hne : d ≠ t := fun e => by subst e; simp at hf
      have := h.val t u (by simpa using hu)
      refine ⟨this.1, ?_⟩
      rw [← this.2]
      simp [Act.put, Array.getD_eq_getD_getElem?, Array.getElem?_setIfInBounds, hne]

/-- a part of a frame is known by a larger one -/
def Has : Env → Env → Prop
  | [], _ => True
  | (t, v) :: r, e => find e t = some v ∧ Has r e

theorem Has.find {e1 e2 : Env} (h : Has e1 e2) : ∀ t v, find e1 t = some v → find e2 t = some v := by
  induction e1 with
  | nil => intro t v hv; simp [E.find] at hv
  | cons p r ih =>
    obtain ⟨k, u⟩ := p
    intro t v hv
    simp only [E.find] at hv
    rcases Bool.eq_false_or_eq_true (Nat.beq k t) with ht | hf
    · rw [ht] at hv
      have htd : k = t := Nat.eq_of_beq_eq_true ht
      have hv' : u = v := by simpa using hv
      subst htd; subst hv'
      exact h.1
    · rw [hf] at hv
      exact ih h.2 t v (by simpa using hv)

theorem Sat.sub {N : Nat} {e1 e2 : Env} {a : Act} (h : Sat N e2 a) (hs : Has e1 e2) : Sat N e1 a :=
  ⟨h.defers, h.size, fun t v hv => h.val t v (hs.find t v hv)⟩

theorem find_int {e : Env} {t : Nat} {a b : Int} (h : find e t = some (.int .i64 a)) (hab : a = b) : find e t = some (.int .i64 b) := hab ▸ h

/-! ### The walk of a code -/

abbrev Post := Exit → Env → World → Prop

def up (N : Nat) (Q : Post) : Exit → Act → World → Prop := fun x a w => ∃ e, Sat N e a ∧ Q x e w

def W (P : Program) (N : Nat) (c : Code) (Q : Post) (e : Env) (w : World) : Prop :=
  ∀ a, Sat N e a → c.wp P (up N Q) a w

def WL (P : Program) (N : Nat) (ops : Array Oper) (Q : Post) (l : List Oper) (e : Env) (w : World) : Prop :=
  ∀ a, Sat N e a → wpList P ops (up N Q) l a w

def thenE (K : Env → World → Prop) (Q : Post) : Post
  | .normal, e, w => K e w
  | x, e, w => Q x e w

def inE (id : Nat) (Q : Post) : Post
  | .exit id', e, w => bif Nat.beq id' id then Q .normal e w else Q (.exit id') e w
  | x, e, w => Q x e w

section
variable {P : Program} {N : Nat} {Q : Post} {e : Env} {w : World}

theorem W_sub {c : Code} {e' : Env} (hs : Has e' e) (h : W P N c Q e' w) : W P N c Q e w :=
  fun a ha => h a (ha.sub hs)

theorem W_mono {c : Code} {Q' : Post} (h : W P N c Q' e w) (hq : ∀ x e w, Q' x e w → Q x e w) : W P N c Q e w :=
  fun a ha => wp_mono (h a ha) fun _ _ _ ⟨e', hs, q⟩ => ⟨e', hs, hq _ _ _ q⟩

theorem W_seq {x y : Code} (h : W P N x (thenE (W P N y Q) Q) e w) : W P N (.seq x y) Q e w := by
  intro a ha
  refine wp_seq (wp_mono (h a ha) fun ex a' w' q => ?_)
  obtain ⟨e', hs, hq⟩ := q
  cases ex with
  | normal => exact hq a' hs
  | exit id => exact ⟨e', hs, hq⟩
  | goto l => exact ⟨e', hs, hq⟩
  | ret => exact ⟨e', hs, hq⟩
  | panic ch => exact ⟨e', hs, hq⟩
  | outgrown => exact ⟨e', hs, hq⟩

theorem W_skip (h : Q .normal e w) : W P N .skip Q e w := fun _ ha => wp_skip ⟨e, ha, h⟩
theorem W_exit {id : Nat} (h : Q (.exit id) e w) : W P N (.exit id) Q e w := fun _ ha => wp_exit ⟨e, ha, h⟩
theorem W_ret (h : Q .ret e w) : W P N .ret Q e w := fun _ ha => wp_ret ⟨e, ha, h⟩

theorem W_block {id : Nat} {c : Code} (h : W P N c (inE id Q) e w) : W P N (.block id c) Q e w := by
  intro a ha
  refine wp_block (wp_mono (h a ha) fun ex a' w' q => ?_)
  obtain ⟨e', hs, hq⟩ := q
  cases ex with
  | normal => exact ⟨e', hs, hq⟩
  | exit id' =>
    simp only [Exit.inBlock]
    simp only [inE] at hq
    by_cases hi : id' = id
    · subst hi
      rw [if_pos rfl]
      exact ⟨e', hs, by simpa using hq⟩
    · rw [if_neg hi]
      have hf : Nat.beq id' id = false := by
        cases hb : Nat.beq id' id with
        | false => rfl
        | true => exact absurd (Nat.eq_of_beq_eq_true hb) hi
      rw [hf] at hq
      exact ⟨e', hs, by simpa using hq⟩
  | goto l => exact ⟨e', hs, hq⟩
  | ret => exact ⟨e', hs, hq⟩
  | panic ch => exact ⟨e', hs, hq⟩
  | outgrown => exact ⟨e', hs, hq⟩

theorem W_cond {c : Operand} {x y : Code} {t : Bool} (hc : ev e c = some (.bool t)) (h1 : t = true → W P N x Q e w) (h0 : t = false → W P N y Q e w) : W P N (.cond c x y) Q e w :=
  fun a ha => wp_cond_split (ha.ev hc) (fun h => h1 h a ha) (fun h => h0 h a ha)
theorem W_cond_t {c : Operand} {x y : Code} (hc : ev e c = some (.bool true)) (h : W P N x Q e w) : W P N (.cond c x y) Q e w :=
  fun a ha => wp_cond_true (ha.ev hc) (h a ha)
theorem W_cond_f {c : Operand} {x y : Code} (hc : ev e c = some (.bool false)) (h : W P N y Q e w) : W P N (.cond c x y) Q e w :=
  fun a ha => wp_cond_false (ha.ev hc) (h a ha)

theorem W_region {id : Nat} {l : List Oper} (h : WL P N l.toArray Q l e w) : W P N (.region id l.toArray false) Q e w :=
  fun a ha => wp_region_lit (h a ha)

/-- a loop: the frame's live slots as a function of a state, a relation on the world, a measure -/
theorem W_loop {S : Type} {c : Code} (E : S → Env) (I : S → World → Prop) (μ : S → Nat) (s0 : S)
    (h0 : Has (E s0) e) (hI : I s0 w)
    (round : ∀ s w, I s w → W P N c (thenE (fun e' w' => ∃ s', Has (E s') e' ∧ I s' w' ∧ μ s' < μ s) Q) (E s) w) :
    W P N (.loop c) Q e w := by
  intro a ha b k cs
  have key : ∀ n s a w, μ s = n → Sat N (E s) a → I s w →
      ∃ ex a' w', up N Q ex a' w' ∧ Arrives P (lone (b.at a (.code c :: .inLoop c :: k)) cs w) b k cs ex a' w' := by
    intro n
    induction n using Nat.strongRecOn with
    | _ n ih =>
      intro s a w hn hs hi
      obtain ⟨ex, a₁, w₁, ⟨e₁, hs₁, hq⟩, harr⟩ := round s w hi a hs b (.inLoop c :: k) cs
      cases ex with
      | normal =>
        obtain ⟨s', hh, hi', hlt⟩ := hq
        obtain ⟨ex₂, a₂, w₂, hq₂, harr₂⟩ := ih (μ s') (hn ▸ hlt) s' a₁ w₁ rfl (hs₁.sub hh) hi'
        exact ⟨ex₂, a₂, w₂, hq₂, .of_steps (Steps.trans harr (.one step_inLoop)) harr₂⟩
      | exit id => exact ⟨_, a₁, w₁, ⟨e₁, hs₁, hq⟩, .pass (x := .inLoop c) rfl (fun _ _ => .inl (by simp)) harr⟩
      | goto l => exact ⟨_, a₁, w₁, ⟨e₁, hs₁, hq⟩, .pass (x := .inLoop c) rfl (fun _ _ => .inl (by simp)) harr⟩
      | ret => exact ⟨_, a₁, w₁, ⟨e₁, hs₁, hq⟩, .pass (x := .inLoop c) rfl (fun _ _ => .inl (by simp)) harr⟩
      | panic ch => exact ⟨_, a₁, w₁, ⟨e₁, hs₁, hq⟩, .pass (x := .inLoop c) rfl (fun _ _ => .inl (by simp)) harr⟩
      | outgrown => exact ⟨_, a₁, w₁, ⟨e₁, hs₁, hq⟩, .pass (x := .inLoop c) rfl (fun _ _ => .inl (by simp)) harr⟩
  obtain ⟨ex, a', w', hq, harr⟩ := key _ s0 a w rfl (ha.sub h0) hI
  exact ⟨ex, a', w', hq, .of_steps (.one step_loop) harr⟩

end

section
variable {K : Env → World → Prop} {Q : Post} {e : Env} {w : World} {id id' : Nat}
theorem then_normal (h : K e w) : thenE K Q .normal e w := h
theorem then_exit (h : Q (.exit id) e w) : thenE K Q (.exit id) e w := h
theorem then_ret (h : Q .ret e w) : thenE K Q .ret e w := h
theorem in_normal (h : Q .normal e w) : inE id Q .normal e w := h
theorem in_ret (h : Q .ret e w) : inE id Q .ret e w := h
theorem in_hit (hb : Nat.beq id' id = true) (h : Q .normal e w) : inE id Q (.exit id') e w := by
  show (bif Nat.beq id' id then _ else _); rw [hb]; exact h
theorem in_miss (hb : Nat.beq id' id = false) (h : Q (.exit id') e w) : inE id Q (.exit id') e w := by
  show (bif Nat.beq id' id then _ else _); rw [hb]; exact h
end

/-! ### The operations of a region -/

/-- what a guard says in a frame: carried out, passed over, or not known -/
def gd (ops : Array Oper) (e : Env) : Option (Nat × Bool) → Option Bool
  | none => some true
  | some (j, want) =>
    match (ops[j]?).bind (·.dst) with
    | none => some false
    | some t =>
      match find e t with
      | some (.bool b) => some (b == want)
      | some _ => some false
      | none => none

theorem Sat.wanted {N : Nat} {e : Env} {a : Act} (h : Sat N e a) {ops : Array Oper} {o : Oper} {r : Bool} (hg : gd ops e o.guard = some r) : Region.wanted o (yielded ops a.tmps) = r := by
  unfold Region.wanted
  unfold gd at hg
  cases hgd : o.guard with
  | none => rw [hgd] at hg; simpa using hg
  | some p =>
    obtain ⟨j, want⟩ := p
    rw [hgd] at hg
    simp only at hg
    simp only
    unfold yielded
    cases hd : (ops[j]?).bind (·.dst) with
    | none =>
      simp only [hd, Option.some.injEq] at hg
      rw [← hg]; simp
    | some t =>
      simp only [hd] at hg
      cases hf : find e t with
      | none => simp only [hf] at hg; cases hg
      | some v =>
        obtain ⟨hlt, hv⟩ := h.val t v hf
        have ht : a.tmps[t]? = some v := by
          rw [Array.getD_eq_getD_getElem?] at hv
          rw [Array.getElem?_eq_getElem (by rw [h.size]; exact hlt)] at hv ⊢
          simpa using hv
        simp only [hf] at hg
        simp only [Option.bind_some, ht]
        cases v with
        | bool b => simp only [Option.some.injEq] at hg; rw [← hg]; rfl
        | _ => simp only [Option.some.injEq] at hg; rw [← hg]; rfl

section
variable {P : Program} {N : Nat} {ops : Array Oper} {Q : Post} {rest : List Oper} {e : Env} {w w' : World}

theorem WL_sub {l : List Oper} {e' : Env} (hs : Has e' e) (h : WL P N ops Q l e' w) : WL P N ops Q l e w :=
  fun a ha => h a (ha.sub hs)

theorem WL_nil (h : Q .normal e w) : WL P N ops Q [] e w := fun _ ha => wpList_nil ⟨e, ha, h⟩

theorem WL_pass {o : Oper} (hg : gd ops e o.guard = some false) (hd : dstOk N o.dst = true) (k : WL P N ops Q rest (bnd o.dst undef e) w) : WL P N ops Q (o :: rest) e w :=
  fun a ha => wpList_skip (ha.wanted hg) (k _ (ha.put hd _))

theorem WL_do {o : Oper} (hg : gd ops e o.guard = some true) (h : ∀ a, Sat N e a → o.wp P a w (wpList P ops (up N Q) rest) (up N Q)) : WL P N ops Q (o :: rest) e w := by
  intro a ha
  unfold wpList
  rw [if_pos (ha.wanted hg)]
  exact .inl (h a ha)

theorem WL_val {o : Oper} {v : Value} (hg : gd ops e o.guard = some true) (hd : dstOk N o.dst = true)
    (hr : ∀ a, Sat N e a → (execOp a.eval o).run P w = .ok (.value v) w') (k : WL P N ops Q rest (bnd o.dst v e) w') : WL P N ops Q (o :: rest) e w :=
  WL_do hg fun a ha => by
    unfold Oper.wp
    rw [hr a ha]
    exact k _ (ha.put hd _)

theorem WL_unit {o : Oper} (hg : gd ops e o.guard = some true) (hd : dstOk N o.dst = true)
    (hr : ∀ a, Sat N e a → (execOp a.eval o).run P w = .ok .skip w') (k : WL P N ops Q rest (bnd o.dst undef e) w') : WL P N ops Q (o :: rest) e w :=
  WL_do hg fun a ha => by
    unfold Oper.wp
    rw [hr a ha]
    exact k _ (ha.put hd _)

theorem WL_sub' {l : List Oper} {e e' : Env} (hs : ∀ t v, find e' t = some v → find e t = some v) (h : WL P N ops Q l e' w) : WL P N ops Q l e w :=
  fun a ha => h a ⟨ha.defers, ha.size, fun t v hv => ha.val t v (hs t v hv)⟩
/-- a guard that is not decided: both ways, with the guard's slot decided in each -/
theorem WL_part0 {o : Oper} {t : Nat} {b : Bool} (hv : find e t = some (.bool b))
    (h1 : b = true → WL P N ops Q (o :: rest) ((t, .bool true) :: e) w) (h0 : b = false → WL P N ops Q (o :: rest) ((t, .bool false) :: e) w) : WL P N ops Q (o :: rest) e w := by
  cases b with
  | true =>
    refine WL_sub' ?_ (h1 rfl)
    intro t' v' h'
    simp only [find] at h'
    rcases Bool.eq_false_or_eq_true (Nat.beq t t') with ht | hf
    · rw [ht] at h'
      have := Nat.eq_of_beq_eq_true ht
      subst this
      rw [hv]; simpa using h'
    · rw [hf] at h'; simpa using h'
  | false =>
    refine WL_sub' ?_ (h0 rfl)
    intro t' v' h'
    simp only [find] at h'
    rcases Bool.eq_false_or_eq_true (Nat.beq t t') with ht | hf
    · rw [ht] at h'
      have := Nat.eq_of_beq_eq_true ht
      subst this
      rw [hv]; simpa using h'
    · rw [hf] at h'; simpa using h'
theorem WL_part {d : Option Tmp} {op : Op} {ty : TypeId} {pos : String} {af : Array Edge} {j : Nat} {want : Bool} {t : Nat} {b : Bool} (ht : (ops[j]?).bind (·.dst) = some t) (hv : find e t = some (.bool b))
    (h1 : b = true → WL P N ops Q (⟨d, op, ty, pos, af, some (j, want)⟩ :: rest) ((t, .bool true) :: e) w) (h0 : b = false → WL P N ops Q (⟨d, op, ty, pos, af, some (j, want)⟩ :: rest) ((t, .bool false) :: e) w) :
    WL P N ops Q (⟨d, op, ty, pos, af, some (j, want)⟩ :: rest) e w := WL_part0 hv h1 h0
end

/-! ### Calls and contracts -/

def CallOk (P : Program) (f : FuncId) : Prop :=
  (P.funcs[f]?).any (fun fn => !(fn.name == "runtime.NumGoroutine") && fn.body.isSome) = true

structure Run (P : Program) (f : FuncId) (args : List Value) (w : World) (R : Value → World → Prop) : Prop where
  ok : CallOk P f
  calls : Calls P f args.toArray w fun en w' => ∃ v, en = .returned v ∧ R v w'

theorem Run.mono {P : Program} {f : FuncId} {args : List Value} {w : World} {R R' : Value → World → Prop} (h : Run P f args w R) (hr : ∀ v w', R v w' → R' v w') : Run P f args w R' :=
  ⟨h.ok, h.calls.mono fun _ _ ⟨v, he, hR⟩ => ⟨v, he, hr _ _ hR⟩⟩

theorem run_callFunc_ok {P : Program} {f : FuncId} (h : CallOk P f) (args : Array Value) (w : World) : (callFunc f args).run P w = .ok (.enter f args) w := by
  unfold CallOk at h
  cases hf : P.funcs[f]? with
  | none => simp [hf] at h
  | some fn =>
    simp only [hf, Option.any_some, Bool.and_eq_true, Bool.not_eq_true', beq_eq_false_iff_ne] at h
    obtain ⟨h1, h2⟩ := h
    have h3 : fn.body.isNone = false := by cases hb : fn.body <;> simp_all
    have h4 : (fn.name == "runtime.NumGoroutine") = false := by simpa using h1
    have hp : ∀ (w : World), (program).run P w = .ok P w := fun _ => rfl
    unfold callFunc
    rw [Sem.run_bind, hp, Result.andThen_ok, hf]
    simp only [h4, h3, Bool.false_eq_true, if_false]
    rfl

def penv : Nat → List Value → Env
  | _, [] => []
  | i, v :: r => (i, v) :: penv (i + 1) r

theorem find_penv (vs : List Value) : ∀ (i t : Nat) (v : Value), find (penv i vs) t = some v → i ≤ t ∧ vs[t - i]? = some v := by
  induction vs with
  | nil => intro i t v h; simp [penv, find] at h
  | cons u r ih =>
    intro i t v h
    simp only [penv, find] at h
    rcases Bool.eq_false_or_eq_true (Nat.beq i t) with ht | hf
    · have := Nat.eq_of_beq_eq_true ht
      rw [ht] at h
      subst this
      exact ⟨Nat.le_refl _, by simpa using h⟩
    · rw [hf] at h
      have hne : i ≠ t := fun e => by subst e; simp at hf
      obtain ⟨h1, h2⟩ := ih (i + 1) t v (by simpa using h)
      refine ⟨by omega, ?_⟩
      rw [show t - i = (t - (i + 1)) + 1 by omega]
      simpa using h2

/-- what a function hands back -/
def retQ (P : Program) (N : Nat) (fn : Func) (R : Value → World → Prop) : Post
  | .ret, e, w | .normal, e, w => ∃ v, (∀ a, Sat N e a → (results fn a.tmps).run P w = .ok v w) ∧ R v w
  | _, _, _ => False

theorem Run_intro {P : Program} {f : FuncId} {fn : Func} {c : Code} {N : Nat} {args : List Value} {w : World} {R : Value → World → Prop}
    (hf : P.funcs[f]? = some fn) (hok : CallOk P f) (hb : fn.body = some c) (hn : fn.ntmps = N) (hargs : args.length ≤ N)
    (h : W P N c (retQ P N fn R) (penv 0 args) w) : Run P f args w R := by
  refine ⟨hok, calls_of_wp hf hb ?_⟩
  have hsat : Sat N (penv 0 args) { tmps := args.toArray ++ Array.replicate (fn.ntmps - args.toArray.size) undef, defers := [] } := by
    refine ⟨rfl, by simp [hn]; omega, fun t v hv => ?_⟩
    obtain ⟨_, h2⟩ := find_penv args 0 t v hv
    simp only [Nat.sub_zero] at h2
    have hlt : t < args.length := by
      rcases Nat.lt_or_ge t args.length with h | h
      · exact h
      · rw [List.getElem?_eq_none h] at h2; cases h2
    refine ⟨by omega, ?_⟩
    rw [Array.getD_eq_getD_getElem?, Array.getElem?_append_left (by simpa using hlt)]
    simp [h2]
  refine wp_mono (h _ hsat) fun ex a w' q => ?_
  obtain ⟨e', hs, hq⟩ := q
  cases ex with
  | normal => obtain ⟨v, hr, hR⟩ := hq; exact ⟨hs.defers, v, hr a hs, v, rfl, hR⟩
  | ret => obtain ⟨v, hr, hR⟩ := hq; exact ⟨hs.defers, v, hr a hs, v, rfl, hR⟩
  | exit id => exact hq.elim
  | goto l => exact hq.elim
  | panic ch => exact hq.elim
  | outgrown => exact hq.elim

section
variable {P : Program} {N : Nat} {fn : Func} {R : Value → World → Prop} {e : Env} {w : World}
theorem ret1 {t : Tmp} {v : Value} (hr : fn.results = #[.tmp t]) (hv : find e t = some v) (h : R v w) : retQ P N fn R .ret e w :=
  ⟨v, fun a ha => by rw [results_tmp hr]; rw [(ha.val t v hv).2], h⟩
theorem ret1n {t : Tmp} {v : Value} (hr : fn.results = #[.tmp t]) (hv : find e t = some v) (h : R v w) : retQ P N fn R .normal e w :=
  ⟨v, fun a ha => by rw [results_tmp hr]; rw [(ha.val t v hv).2], h⟩
theorem ret2 {t u : Tmp} {v x : Value} (hr : fn.results = #[.tmp t, .tmp u]) (hv : find e t = some v) (hx : find e u = some x) (h : R (.tuple #[v, x]) w) : retQ P N fn R .ret e w :=
  ⟨_, fun a ha => by rw [results_tmp2 hr]; rw [(ha.val t v hv).2, (ha.val u x hx).2], h⟩
theorem ret3 {t u s : Tmp} {v x y : Value} (hr : fn.results = #[.tmp t, .tmp u, .tmp s]) (hv : find e t = some v) (hx : find e u = some x) (hy : find e s = some y) (h : R (.tuple #[v, x, y]) w) : retQ P N fn R .ret e w :=
  ⟨_, fun a ha => by
    have h1 := (ha.val t v hv).2
    have h2 := (ha.val u x hx).2
    have h3 := (ha.val s y hy).2
    simp only [Array.getD_eq_getD_getElem?] at h1 h2 h3
    simp [results, hr, h1, h2, h3], h⟩
theorem ret0 (hr : fn.results = #[]) (h : R (.tuple #[]) w) : retQ P N fn R .ret e w :=
  ⟨_, fun a _ => results_none hr _ _ _, h⟩
theorem ret0n (hr : fn.results = #[]) (h : R (.tuple #[]) w) : retQ P N fn R .normal e w :=
  ⟨_, fun a _ => results_none hr _ _ _, h⟩
end

end Go.E
set_option linter.unusedVariables false
set_option linter.unusedSimpArgs false
namespace Go.E
open Go Go.RowKit

theorem run_program (P : Program) (w : World) : (program).run P w = .ok P w := rfl

/-! ### Facts on types, as classes: their instances stand in a text of their own -/

class SliceT (P : Program) (t : TypeId) (el : outParam TypeId) : Prop where
  u : P.underlying t = some (.slice el)
class ArrayT (P : Program) (t : TypeId) (n : outParam Nat) (el : outParam TypeId) : Prop where
  u : P.underlying t = some (.array n el)
class MapT (P : Program) (t : TypeId) (k el : outParam TypeId) : Prop where
  u : P.underlying t = some (.map k el)
class IntT (P : Program) (t : TypeId) (k : outParam IntKind) : Prop where
  u : P.underlying t = some (.int k)
class BoolT (P : Program) (t : TypeId) : Prop where
  u : P.underlying t = some .bool
/-- a type's cells, bytes and zero -/
class ElemT (P : Program) (t : TypeId) (sz bytes : outParam Nat) (z : outParam (List Value)) : Prop where
  i : (P.info? t).map (fun i => (i.size, i.bytes, i.zero.map fun v => v.cells.toList)) = some (sz, bytes, some z)
  l : z.length = sz
/-- one cell -/
class ScalarT (P : Program) (t : TypeId) : Prop where
  u : (match P.underlying t with | some (.struct _) | some (.array _ _) | none => false | _ => true) = true
/-- several cells -/
class AggT (P : Program) (t : TypeId) : Prop where
  u : (match P.underlying t with | some (.struct _) | some (.array _ _) => true | _ => false) = true
/-- a field: its type, its place, how many cells, whether they are handed on as an aggregate -/
class FieldT (P : Program) (s : TypeId) (f : Nat) (ft off sz : outParam Nat) (agg : outParam Bool) : Prop where
  u : (match P.underlying s with
    | some (.struct fs) => match fs[f]? with
      | some fd => decide (fd.type = ft ∧ fd.offset = off ∧ sz ≠ 0) && ((P.info? ft).map (·.size) == some sz) && ((match P.underlying ft with | some (.struct _) | some (.array _ _) => some true | none => none | _ => some false) == some agg)
      | none => false
    | _ => false) = true

/-- a struct type: where its fields lie -/
class StructT (P : Program) (t : TypeId) (pl : outParam (List (Nat × Nat))) : Prop where
  u : (match P.underlying t with
    | some (.struct fs) => decide (fs.toList.map (fun f => (P.info? f.type).map fun i => (f.offset, i.size)) = pl.map some)
    | _ => false) = true

section types
variable {P : Program}
theorem ElemT.get {t : TypeId} {sz bytes : Nat} {z : List Value} (h : ElemT P t sz bytes z) : ∃ (i : TypeInfo) (v : Value), P.info? t = some i ∧ i.size = sz ∧ i.bytes = bytes ∧ i.zero = some v ∧ v.cells = z.toArray := by
  have := h.i
  cases hi : P.info? t with
  | none => simp [hi] at this
  | some i =>
    simp only [hi, Option.map_some, Option.some.injEq, Prod.mk.injEq] at this
    obtain ⟨h1, h2, h3⟩ := this
    cases hz : i.zero with
    | none => simp [hz] at h3
    | some v =>
      refine ⟨i, v, rfl, h1, h2, hz, ?_⟩
      simp only [hz, Option.map_some, Option.some.injEq] at h3
      rw [← h3]

theorem run_sizeOf {t : TypeId} {sz bytes : Nat} {z : List Value} (h : ElemT P t sz bytes z) (w : World) : (sizeOf t).run P w = .ok sz w := by
  obtain ⟨i, v, hi, h1, _⟩ := h.get
  simp [sizeOf, typeInfo, run_program, hi, h1]

theorem run_zero {t : TypeId} {sz bytes : Nat} {z : List Value} (h : ElemT P t sz bytes z) (w : World) : ∃ v, (zeroValue t).run P w = .ok v w ∧ v.cells = z.toArray := by
  obtain ⟨i, v, hi, h1, h2, hz, hv⟩ := h.get
  exact ⟨v, by simp [zeroValue, typeInfo, run_program, hi, hz], hv⟩

theorem run_isAgg_f {t : TypeId} (h : ScalarT P t) (w : World) : (isAgg t).run P w = .ok false w := by
  have := h.u
  cases hu : P.underlying t with
  | none => simp [hu] at this
  | some d => cases d <;> simp_all [isAgg, underlying, run_program]

theorem run_isAgg_t {t : TypeId} (h : AggT P t) (w : World) : (isAgg t).run P w = .ok true w := by
  have := h.u
  cases hu : P.underlying t with
  | none => simp [hu] at this
  | some d => cases d <;> simp_all [isAgg, underlying, run_program]
end types

/-! ### Memory in the small -/

/-- the one cell behind a pointer -/
def Cell (w : World) (p : Option Addr) (v : Value) : Prop := ∃ ad, p = some ad ∧ w.cell? ad = some v
/-- the cells behind a pointer -/
def Cells (w : World) (p : Option Addr) (vs : List Value) : Prop := ∃ ad, p = some ad ∧ ∀ j v, vs[j]? = some v → w.cell? (ad.add j) = some v
/-- a block of cells, none of them frozen -/
def Blk (w : World) (b : Nat) (t : TypeId) (cs : List Value) : Prop := w.heap[b]? = some (.cells cs.toArray t (0, 0))
/-- the old world with new blocks: nothing that was there has turned -/
def Keep (w w' : World) : Prop := Below w.heap.size w w'
/-- one new block -/
structure Al (w w' : World) (b : Nat) (t : TypeId) (cs : List Value) : Prop where
  b_eq : b = w.heap.size
  w_eq : w' = w.alloc (.cells cs.toArray t)
/-- one block has turned -/
structure Upd (w w' : World) (b : Nat) (t : TypeId) (cs : List Value) : Prop where
  os : w'.os = w.os
  tape : w'.tape = w.tape
  output : w'.output = w.output
  size : w'.heap.size = w.heap.size
  other : ∀ k, k ≠ b → w'.heap[k]? = w.heap[k]?
  blk : Blk w' b t cs

/-- the address of an element; of a field -/
def ea (A : Option Addr) (sz : Nat) (i : Int) : Option Addr := A.map (·.add (i.toNat * sz))
def fa (p : Option Addr) (off : Nat) : Option Addr := p.map (·.add off)

theorem Keep.refl (w : World) : Keep w w := Below.refl _ _
theorem Keep.keep {a b c : World} (h : Keep a b) (k : Keep b c) : Keep a c := Below.trans h (Below.mono k h.size)
theorem Keep.size_le {a b : World} (h : Keep a b) : a.heap.size ≤ b.heap.size := h.size
theorem Keep.drew (w : World) : Keep w w.drew := (Below.refl _ _).drew
theorem Al.kp {w w' : World} {b : Nat} {t : TypeId} {cs : List Value} (h : Al w w' b t cs) : Keep w w' := by
  rw [h.w_eq]; exact (Below.refl _ _).alloc (Nat.le_refl _) _
theorem Al.blk {w w' : World} {b : Nat} {t : TypeId} {cs : List Value} (h : Al w w' b t cs) : Blk w' b t cs := by
  rw [h.w_eq, h.b_eq]; exact heap_alloc_new w _
theorem Al.size {w w' : World} {b : Nat} {t : TypeId} {cs : List Value} (h : Al w w' b t cs) : w'.heap.size = w.heap.size + 1 := by
  rw [h.w_eq]; simp

theorem Blk.lt {w : World} {b : Nat} {t : TypeId} {cs : List Value} (h : Blk w b t cs) : b < w.heap.size := by
  rcases Nat.lt_or_ge b w.heap.size with hlt | hge
  · exact hlt
  · unfold Blk at h; rw [Array.getElem?_eq_none hge] at h; cases h
theorem Blk.keep {w w' : World} {b : Nat} {t : TypeId} {cs : List Value} (h : Blk w b t cs) (k : Keep w w') : Blk w' b t cs := (k.block b h.lt).trans h
theorem Blk.upd {w w' : World} {b g : Nat} {t t' : TypeId} {cs cs' : List Value} (h : Blk w b t cs) (k : Upd w w' g t' cs') (hne : b ≠ g) : Blk w' b t cs := (k.other b hne).trans h
theorem Blk.cell? {w : World} {b : Nat} {t : TypeId} {cs : List Value} (h : Blk w b t cs) (i : Nat) : w.cell? ⟨b, i, none⟩ = cs[i]? := by
  unfold Blk at h
  simp [World.cell?, h]
theorem Blk.frozen {w : World} {b : Nat} {t : TypeId} {cs : List Value} (h : Blk w b t cs) (i : Nat) : w.frozen? ⟨b, i, none⟩ = false := by
  unfold Blk at h
  simp [World.frozen?, h]
theorem add_mk (b o n : Nat) : (⟨b, o, none⟩ : Addr).add n = ⟨b, o + n, none⟩ := by unfold Addr.add; split <;> simp_all
theorem Blk.cell {w : World} {b : Nat} {t : TypeId} {cs : List Value} (h : Blk w b t cs) {i : Nat} {v : Value} (hv : cs[i]? = some v) : Cell w (some ⟨b, i, none⟩) v :=
  ⟨_, rfl, by rw [h.cell?]; exact hv⟩
theorem Blk.fcell {w : World} {b : Nat} {t : TypeId} {cs : List Value} (h : Blk w b t cs) {i : Nat} {v : Value} (hv : cs[i]? = some v) : Cell w (fa (some ⟨b, 0, none⟩) i) v :=
  ⟨_, rfl, by
    have := h.cell? i
    show w.cell? ((⟨b, 0, none⟩ : Addr).add i) = some v
    rw [add_mk, Nat.zero_add, this]; exact hv⟩
theorem Blk.cells {w : World} {b : Nat} {t : TypeId} {cs : List Value} (h : Blk w b t cs) : Cells w (some ⟨b, 0, none⟩) cs :=
  ⟨_, rfl, fun j v hv => by rw [add_mk, h.cell?]; simpa using hv⟩
theorem Cell.keep {w w' : World} {p : Option Addr} {v : Value} (h : Cell w p v) (k : Keep w w') : Cell w' p v := by
  obtain ⟨ad, hp, hc⟩ := h
  exact ⟨ad, hp, (Below.cell k (World.block_lt_of_cell? w ad hc)).trans hc⟩
theorem Cells.keep {w w' : World} {p : Option Addr} {vs : List Value} (h : Cells w p vs) (k : Keep w w') : Cells w' p vs := by
  obtain ⟨ad, hp, hc⟩ := h
  exact ⟨ad, hp, fun j v hv => (Below.cell k (World.block_lt_of_cell? w _ (hc j v hv))).trans (hc j v hv)⟩

def evl (e : Env) : List Operand → Option (List Value)
  | [] => some []
  | x :: r => match ev e x with
    | none => none
    | some v => match evl e r with
      | none => none
      | some vs => some (v :: vs)

theorem Sat.evl {N : Nat} {e : Env} {a : Act} (h : Sat N e a) : ∀ {xs : List Operand} {vs : List Value}, evl e xs = some vs → xs.map a.eval = vs
  | [], vs, hv => by simp only [E.evl, Option.some.injEq] at hv; simp [hv]
  | x :: r, vs, hv => by
    simp only [E.evl] at hv
    cases hx : E.ev e x with
    | none => rw [hx] at hv; cases hv
    | some v =>
      rw [hx] at hv
      simp only at hv
      cases hr : E.evl e r with
      | none => rw [hr] at hv; cases hv
      | some us =>
        rw [hr] at hv
        simp only [Option.some.injEq] at hv
        rw [← hv, List.map_cons, h.ev hx, h.evl hr]

/-- the operation yields v, and leaves the world as it is -/
def PureOp (P : Program) (N : Nat) (e : Env) (w : World) (o : Oper) (v : Value) : Prop := ∀ a, Sat N e a → (execOp a.eval o).run P w = .ok (.value v) w

section ops
variable {P : Program} {N : Nat} {ops : Array Oper} {Q : Post} {rest : List Oper} {e : Env} {w : World}
  {dst : Option Tmp} {ty : TypeId} {pos : String} {af : Array Edge} {g : Option (Nat × Bool)} {x y z : Operand}

theorem o_move {v : Value} (hx : ev e x = some v) : PureOp P N e w ⟨dst, .move x, ty, pos, af, g⟩ v := fun a ha => by simp [execOp, ha.ev hx]
theorem o_assign {v : Value} (hx : ev e x = some v) : PureOp P N e w ⟨dst, .assign x, ty, pos, af, g⟩ v := fun a ha => by simp [execOp, ha.ev hx]
theorem o_pick_t {v : Value} (hz : ev e z = some (.bool true)) (hx : ev e x = some v) : PureOp P N e w ⟨dst, .pick z x y, ty, pos, af, g⟩ v := fun a ha => by simp [execOp, ha.ev hz, ha.ev hx, asBool]
theorem o_pick_f {v : Value} (hz : ev e z = some (.bool false)) (hy : ev e y = some v) : PureOp P N e w ⟨dst, .pick z x y, ty, pos, af, g⟩ v := fun a ha => by simp [execOp, ha.ev hz, ha.ev hy, asBool]

theorem o_pick_b {a b c : Bool} (hz : ev e z = some (.bool a)) (hx : ev e x = some (.bool b)) (hy : ev e y = some (.bool c)) : PureOp P N e w ⟨dst, .pick z x y, ty, pos, af, g⟩ (.bool (bif a then b else c)) :=
  fun ac ha => by cases a <;> simp [execOp, ha.ev hz, ha.ev hx, ha.ev hy, asBool]

/-! integers -/
theorem int_beq (a b : Int) : (a == b) = decide (a = b) := by
  cases h : (a == b) with
  | true => have := eq_of_beq h; simp [this]
  | false => have := ne_of_beq_false h; simp [this]
section arith
variable {k k' : IntKind} {a b : Int} {t t' : TypeId}
theorem o_arith_w {op : BinOp} {r : Int} (hx : ev e x = some (.int k a)) (hy : ev e y = some (.int k b))
    (hop : (match op with | .add => some (a + b) | .sub => some (a - b) | .mul => some (a * b) | _ => none) = some r) :
    PureOp P N e w ⟨dst, .binOp op t x y t', ty, pos, af, g⟩ (.int k (k.wrap r)) :=
  (fun ac ha => by
    cases op <;> simp at hop <;> subst hop <;> simp [execOp, ha.ev hx, ha.ev hy, eqGuard, binOp, Op.intArith])

theorem wrap_i64 {r : Int} (h0 : -9223372036854775808 ≤ r) (h1 : r ≤ 9223372036854775807) : IntKind.i64.wrap r = r := IntWalk.i64_in _ ⟨h0, h1⟩
theorem o_add (hx : ev e x = some (.int .i64 a)) (hy : ev e y = some (.int .i64 b))
    (hr : -9223372036854775808 ≤ a + b ∧ a + b ≤ 9223372036854775807) :
    PureOp P N e w ⟨dst, .binOp .add t x y t', ty, pos, af, g⟩ (.int .i64 (a + b)) :=
  fun ac ha => by rw [o_arith_w (op := .add) (r := a + b) hx hy rfl ac ha, wrap_i64 hr.1 hr.2]
theorem o_sub (hx : ev e x = some (.int .i64 a)) (hy : ev e y = some (.int .i64 b))
    (hr : -9223372036854775808 ≤ a - b ∧ a - b ≤ 9223372036854775807) :
    PureOp P N e w ⟨dst, .binOp .sub t x y t', ty, pos, af, g⟩ (.int .i64 (a - b)) :=
  fun ac ha => by rw [o_arith_w (op := .sub) (r := a - b) hx hy rfl ac ha, wrap_i64 hr.1 hr.2]
theorem o_mul (hx : ev e x = some (.int .i64 a)) (hy : ev e y = some (.int .i64 b))
    (hr : -9223372036854775808 ≤ a * b ∧ a * b ≤ 9223372036854775807) :
    PureOp P N e w ⟨dst, .binOp .mul t x y t', ty, pos, af, g⟩ (.int .i64 (a * b)) :=
  fun ac ha => by rw [o_arith_w (op := .mul) (r := a * b) hx hy rfl ac ha, wrap_i64 hr.1 hr.2]
theorem o_quo (hx : ev e x = some (.int k a)) (hy : ev e y = some (.int k b)) (hb : b ≠ 0) :
    PureOp P N e w ⟨dst, .binOp .quo t x y t', ty, pos, af, g⟩ (.int k (k.wrap (a.tdiv b))) :=
  (fun ac ha => by simp [execOp, ha.ev hx, ha.ev hy, eqGuard, binOp, Op.intDiv, hb])

theorem o_rem (hx : ev e x = some (.int k a)) (hy : ev e y = some (.int k b)) (hb : b ≠ 0) :
    PureOp P N e w ⟨dst, .binOp .rem t x y t', ty, pos, af, g⟩ (.int k (a.tmod b)) :=
  (fun ac ha => by simp [execOp, ha.ev hx, ha.ev hy, eqGuard, binOp, Op.intDiv, hb])

theorem o_lss (hx : ev e x = some (.int k a)) (hy : ev e y = some (.int k b)) :
    PureOp P N e w ⟨dst, .binOp .lss t x y t', ty, pos, af, g⟩ (.bool (decide (a < b))) :=
  (fun ac ha => by simp [execOp, ha.ev hx, ha.ev hy, eqGuard, binOp, Op.intCmp])

theorem o_leq (hx : ev e x = some (.int k a)) (hy : ev e y = some (.int k b)) :
    PureOp P N e w ⟨dst, .binOp .leq t x y t', ty, pos, af, g⟩ (.bool (decide (a ≤ b))) :=
  (fun ac ha => by simp [execOp, ha.ev hx, ha.ev hy, eqGuard, binOp, Op.intCmp])

theorem o_gtr (hx : ev e x = some (.int k a)) (hy : ev e y = some (.int k b)) :
    PureOp P N e w ⟨dst, .binOp .gtr t x y t', ty, pos, af, g⟩ (.bool (decide (b < a))) :=
  (fun ac ha => by simp [execOp, ha.ev hx, ha.ev hy, eqGuard, binOp, Op.intCmp])

theorem o_geq (hx : ev e x = some (.int k a)) (hy : ev e y = some (.int k b)) :
    PureOp P N e w ⟨dst, .binOp .geq t x y t', ty, pos, af, g⟩ (.bool (decide (b ≤ a))) :=
  (fun ac ha => by simp [execOp, ha.ev hx, ha.ev hy, eqGuard, binOp, Op.intCmp])

theorem o_eql (hx : ev e x = some (.int k a)) (hy : ev e y = some (.int k b)) :
    PureOp P N e w ⟨dst, .binOp .eql t x y t', ty, pos, af, g⟩ (.bool (decide (a = b))) :=
  (fun ac ha => by simp [execOp, ha.ev hx, ha.ev hy, eqGuard, binOp, Op.intCmp, int_beq])

theorem o_neq (hx : ev e x = some (.int k a)) (hy : ev e y = some (.int k b)) :
    PureOp P N e w ⟨dst, .binOp .neq t x y t', ty, pos, af, g⟩ (.bool (decide (a ≠ b))) :=
  (fun ac ha => by simp [execOp, ha.ev hx, ha.ev hy, eqGuard, binOp, Op.intCmp, bne, int_beq])

theorem o_conv (ht : IntT P t' k') (hsrc : ∃ d, P.underlying t = some d) (hx : ev e x = some (.int k a)) :
    PureOp P N e w ⟨dst, .convert t t' x, ty, pos, af, g⟩ (.int k' (k'.wrap a)) :=
  (fun ac ha => by
    obtain ⟨d, hd⟩ := hsrc
    simp [execOp, ha.ev hx, convert, underlying, run_program, ht.u, hd, Conv.intToInt])

theorem o_neg (hx : ev e x = some (.int .i64 a)) (hr : -9223372036854775808 ≤ -a ∧ -a ≤ 9223372036854775807) :
    PureOp P N e w ⟨dst, .unOp .neg t x, ty, pos, af, g⟩ (.int .i64 (-a)) :=
  (fun ac ha => by
    have := wrap_i64 hr.1 hr.2
    simp [execOp, ha.ev hx, Op.unary, Op.intArith, this])

theorem o_min {ats : Array TypeId} (hx : ev e x = some (.int k a)) (hy : ev e y = some (.int k b)) :
    PureOp P N e w ⟨dst, .call ⟨.builtin .min, #[x, y], ats⟩, ty, pos, af, g⟩ (.int k (min a b)) :=
  (fun ac ha => by
    have : (if b < a then b else a) = min a b := by omega
    simp [execOp, resolve, invoke, builtin, ha.ev hx, ha.ev hy, Builtin.min_, Builtin.min2, this])

theorem o_max {ats : Array TypeId} (hx : ev e x = some (.int k a)) (hy : ev e y = some (.int k b)) :
    PureOp P N e w ⟨dst, .call ⟨.builtin .max, #[x, y], ats⟩, ty, pos, af, g⟩ (.int k (max a b)) :=
  (fun ac ha => by
    have : (if b > a then b else a) = max a b := by omega
    simp [execOp, resolve, invoke, builtin, ha.ev hx, ha.ev hy, Builtin.max_, Builtin.max2, this])
end arith

/-! truth values -/
section bools
variable {a b : Bool} {t t' : TypeId}
theorem run_equalIn_bool (ht : BoolT P t) (w : World) (d : Nat) (a b : Bool) : (Op.equalIn (d + 1) t (.bool a) (.bool b)).run P w = .ok (a == b) w := by
  simp [Op.equalIn, underlying, run_program, ht.u]
theorem o_not (hx : ev e x = some (.bool a)) :
    PureOp P N e w ⟨dst, .unOp .not t x, ty, pos, af, g⟩ (.bool (!a)) :=
  (fun ac ha => by simp [execOp, ha.ev hx, Op.unary])

theorem o_eqlb (ht : BoolT P t) (hx : ev e x = some (.bool a)) (hy : ev e y = some (.bool b)) :
    PureOp P N e w ⟨dst, .binOp .eql t x y t', ty, pos, af, g⟩ (.bool (a == b)) :=
  (fun ac ha => by
    have := run_equalIn_bool (P := P) (t := t) ht w 9999 a b
    simp only [execOp, ha.ev hx, ha.ev hy, eqGuard, binOp]
    simp [Op.equal, Op.maxDepth, this])

theorem o_neqb (ht : BoolT P t) (hx : ev e x = some (.bool a)) (hy : ev e y = some (.bool b)) :
    PureOp P N e w ⟨dst, .binOp .neq t x y t', ty, pos, af, g⟩ (.bool (!(a == b))) :=
  (fun ac ha => by
    have := run_equalIn_bool (P := P) (t := t) ht w 9999 a b
    simp only [execOp, ha.ev hx, ha.ev hy, eqGuard, binOp]
    simp [Op.equal, Op.maxDepth, this])
end bools

/-! slices, addresses, loads -/
section mem
variable {A : Option Addr} {n c : Nat} {el t t' : TypeId} {sz bytes : Nat} {zc : List Value} {i : Int} {k : IntKind} {p : Option Addr} {v : Value}
theorem o_len [ht : SliceT P t el] (hx : ev e x = some (.slice A n c)) :
    PureOp P N e w ⟨dst, .call ⟨.builtin .len, #[x], #[t]⟩, ty, pos, af, g⟩ (.int .i64 n) :=
  (fun ac ha => by simp [execOp, resolve, invoke, builtin, ha.ev hx, Builtin.len_, underlying, run_program, ht.u, goInt])

theorem o_indexAddr [ht : SliceT P t el] [he : ElemT P el sz bytes zc] (hx : ev e x = some (.slice A n c)) (hy : ev e y = some (.int k i))
    (hA : A.isSome = true) (h0 : 0 ≤ i) (hn : i < n) :
    PureOp P N e w ⟨dst, .indexAddr t x y, ty, pos, af, g⟩ (.pointer (ea A sz i)) :=
  (fun ac ha => by
    obtain ⟨ad, rfl⟩ := Option.isSome_iff_exists.1 hA
    simp [execOp, ha.ev hx, ha.ev hy, Instr.indexAt, asIntOf, underlying, run_program, ht.u, h0, hn, run_sizeOf he, ea])

theorem o_indexAddrA [ht : ArrayT P t n el] [he : ElemT P el sz bytes zc] (hx : ev e x = some (.pointer p)) (hy : ev e y = some (.int k i))
    (hA : p.isSome = true) (h0 : 0 ≤ i) (hn : i < n) :
    PureOp P N e w ⟨dst, .indexAddr t x y, ty, pos, af, g⟩ (.pointer (ea p sz i)) :=
  (fun ac ha => by
    obtain ⟨ad, rfl⟩ := Option.isSome_iff_exists.1 hA
    simp [execOp, ha.ev hx, ha.ev hy, Instr.indexAt, Instr.sureAddr, asIntOf, underlying, run_program, ht.u, h0, hn, run_sizeOf he, ea])

theorem o_load [ht : ScalarT P t] (hx : ev e x = some (.pointer p)) (hc : Cell w p v) :
    PureOp P N e w ⟨dst, .load t x, ty, pos, af, g⟩ v :=
  (fun ac ha => by
    obtain ⟨ad, rfl, hv⟩ := hc
    simp [execOp, ha.ev hx, Instr.loadAt, Instr.sureAddr, loadVar, run_isAgg_f ht, hv])

theorem o_loadS [ht : AggT P t] [he : ElemT P t sz bytes zc] {vs : List Value} (hx : ev e x = some (.pointer p)) (hc : Cells w p vs) (hl : vs.length = sz) :
    PureOp P N e w ⟨dst, .load t x, ty, pos, af, g⟩ (.agg vs.toArray) :=
  (fun ac ha => by
    obtain ⟨ad, rfl, hv⟩ := hc
    subst hl
    have := run_loadCells_list (P := P) w ad vs hv
    simp [execOp, ha.ev hx, Instr.loadAt, Instr.sureAddr, loadVar, run_isAgg_t ht, run_sizeOf he, this])

theorem FieldT.get {s f ft off sz : Nat} {agg : Bool} (h : FieldT P s f ft off sz agg) : ∃ (fs : Array Field) (fd : Field), P.underlying s = some (.struct fs) ∧ fs[f]? = some fd ∧ fd.type = ft ∧ fd.offset = off ∧ sz ≠ 0 ∧
    (∀ w, (sizeOf ft).run P w = .ok sz w) ∧ (∀ w, (isAgg ft).run P w = .ok agg w) := by
  have := h.u
  cases hu : P.underlying s with
  | none => simp [hu] at this
  | some d =>
    cases d with
    | struct fs =>
      simp only [hu] at this
      cases hf : fs[f]? with
      | none => simp [hf] at this
      | some fd =>
        simp only [hf, Bool.and_eq_true, decide_eq_true_eq, beq_iff_eq] at this
        obtain ⟨⟨⟨h1, h2, h3⟩, h4⟩, h5⟩ := this
        refine ⟨fs, fd, rfl, hf, h1, h2, h3, fun w => ?_, fun w => ?_⟩
        · cases hi : P.info? ft with
          | none => simp [hi] at h4
          | some i => simp [hi] at h4; simp [sizeOf, typeInfo, run_program, hi, h4]
        · cases hi : P.underlying ft with
          | none => simp [hi] at h5
          | some d => cases d <;> simp [hi] at h5 <;> subst h5 <;> simp [isAgg, underlying, run_program, hi]
    | _ => simp [hu] at this

theorem o_fieldAddr {s f ft off : Nat} {agg : Bool} [ht : FieldT P s f ft off sz agg] (hx : ev e x = some (.pointer p)) (hp : p.isSome = true) :
    PureOp P N e w ⟨dst, .fieldAddr s x f, ty, pos, af, g⟩ (.pointer (fa p off)) :=
  (fun ac ha => by
    obtain ⟨ad, rfl⟩ := Option.isSome_iff_exists.1 hp
    obtain ⟨fs, fd, h1, h2, h3, h4, h5, h6, h7⟩ := ht.get
    subst h3; subst h4
    simp [execOp, ha.ev hx, Instr.fieldAt, Instr.sureAddr, underlying, run_program, h1, h2, fieldPlace, h6, h5, fa])

theorem o_field {s f ft off : Nat} [ht : FieldT P s f ft off sz false] {vs : List Value} (hx : ev e x = some (.agg vs.toArray)) (hv : vs[off]? = some v) :
    PureOp P N e w ⟨dst, .field s x f, ty, pos, af, g⟩ v :=
  (fun ac ha => by
    obtain ⟨fs, fd, h1, h2, h3, h4, h5, h6, h7⟩ := ht.get
    subst h3; subst h4
    simp [execOp, ha.ev hx, Instr.field, asAgg, underlying, run_program, h1, h2, part, h7, hv])

theorem o_fieldS {s f ft off : Nat} [ht : FieldT P s f ft off sz true] {vs us : List Value} (hx : ev e x = some (.agg vs.toArray)) (hv : (vs.drop off).take sz = us) :
    PureOp P N e w ⟨dst, .field s x f, ty, pos, af, g⟩ (.agg us.toArray) :=
  (fun ac ha => by
    obtain ⟨fs, fd, h1, h2, h3, h4, h5, h6, h7⟩ := ht.get
    subst h3; subst h4; subst hv
    simp [execOp, ha.ev hx, Instr.field, asAgg, underlying, run_program, h1, h2, part, h7, h6, List.extract_eq_take_drop])

theorem o_extract {vs : List Value} {ix : Nat} (hx : ev e x = some (.tuple vs.toArray)) (hv : vs[ix]? = some v) :
    PureOp P N e w ⟨dst, .extract x ix, ty, pos, af, g⟩ v :=
  (fun ac ha => by simp [execOp, ha.ev hx, Instr.extract, hv])

theorem o_nilCheck (hx : ev e x = some (.pointer p)) (hp : p.isSome = true) :
    PureOp P N e w ⟨dst, .nilCheck x, ty, pos, af, g⟩ (.pointer p) :=
  (fun ac ha => by
    obtain ⟨ad, rfl⟩ := Option.isSome_iff_exists.1 hp
    simp [execOp, ha.ev hx])

theorem WL_pure {d : Tmp} {op : Op} {v : Value} (hg : gd ops e g = some true) (hd : Nat.blt d N = true) (h : PureOp P N e w ⟨some d, op, ty, pos, af, g⟩ v) (k : WL P N ops Q rest ((d, v) :: e) w) :
    WL P N ops Q (⟨some d, op, ty, pos, af, g⟩ :: rest) e w :=
  WL_val (o := ⟨some d, op, ty, pos, af, g⟩) hg hd h k
theorem WL_ex {d : Tmp} {op : Op} (hg : gd ops e g = some true) (hd : Nat.blt d N = true) (h : ∃ v, PureOp P N e w ⟨some d, op, ty, pos, af, g⟩ v ∧ WL P N ops Q rest ((d, v) :: e) w) :
    WL P N ops Q (⟨some d, op, ty, pos, af, g⟩ :: rest) e w := let ⟨_, h1, h2⟩ := h; WL_pure hg hd h1 h2
theorem WL_pass' {d : Tmp} {op : Op} (hg : gd ops e g = some false) (hd : Nat.blt d N = true) (k : WL P N ops Q rest ((d, undef) :: e) w) :
    WL P N ops Q (⟨some d, op, ty, pos, af, g⟩ :: rest) e w :=
  WL_pass (o := ⟨some d, op, ty, pos, af, g⟩) hg hd k
theorem WL_end {K : Env → World → Prop} (h : K e w) : WL P N ops (thenE K Q) [] e w := WL_nil h

theorem run_newObj (o : Obj) (w : World) : (newObj o).run P w = .ok w.heap.size (w.alloc o) := rfl

/-! new blocks -/
theorem o_alloc [he : ElemT P t sz bytes zc] (hg : gd ops e g = some true) {d : Tmp} (hd : Nat.blt d N = true)
    (kk : ∀ b w', Al w w' b t zc → WL P N ops Q rest ((d, .pointer (some ⟨b, 0, none⟩)) :: e) w') : WL P N ops Q (⟨some d, .alloc t, ty, pos, af, g⟩ :: rest) e w :=
  WL_val (w' := w.alloc (.cells zc.toArray t)) hg hd (fun ac ha => by
    obtain ⟨v, hv, hc⟩ := run_zero (P := P) he w
    simp [execOp, Instr.alloc, hv, newVar, newRow, run_newObj, hc]) (kk _ _ ⟨rfl, rfl⟩)
theorem o_box (hg : gd ops e g = some true) {d : Tmp} (hd : Nat.blt d N = true) (hx : ev e x = some v)
    (kk : ∀ b w', Al w w' b t v.cells.toList → WL P N ops Q rest ((d, .pointer (some ⟨b, 0, none⟩)) :: e) w') : WL P N ops Q (⟨some d, .box t x, ty, pos, af, g⟩ :: rest) e w :=
  WL_val (w' := w.alloc (.cells v.cells t)) hg hd (fun ac ha => by
    simp [execOp, ha.ev hx, Instr.box, newVar, newRow, run_newObj]) (kk _ _ ⟨rfl, by simp⟩)
end mem

/-! calls -/
section calls
theorem o_call {f : FuncId} {xs : List Operand} {ats : Array TypeId} {vs : List Value} {R : Value → World → Prop} (hg : gd ops e g = some true) {d : Tmp} (hd : Nat.blt d N = true)
    (hx : evl e xs = some vs) (hf : Run P f vs w R)
    (kk : ∀ v w', R v w' → WL P N ops Q rest ((d, v) :: e) w') : WL P N ops Q (⟨some d, .call ⟨.value (.func f), xs.toArray, ats⟩, ty, pos, af, g⟩ :: rest) e w :=
  WL_do hg fun a ha => by
    have hxs := ha.evl hx
    unfold Oper.wp
    have hr : (execOp a.eval (⟨some d, .call ⟨.value (.func f), xs.toArray, ats⟩, ty, pos, af, g⟩ : Oper)).run P w = .ok (.enter f vs.toArray) w := by
      simp only [execOp, resolve, Act.eval, Deferred.ofValue, invoke, Sem.run_bind, Sem.run_pure, Result.andThen_ok]
      rw [show (xs.toArray.map a.eval) = vs.toArray by simp [hxs]]
      simpa using run_callFunc_ok hf.ok vs.toArray w
    rw [hr]
    refine Calls.mono hf.calls fun en w' h => ?_
    obtain ⟨v, rfl, hR⟩ := h
    exact kk v w' hR _ (ha.put (dst := some d) hd v)
theorem o_callv {f : FuncId} {xs : List Operand} {ats : Array TypeId} {vs : List Value} {fi ca : List Value} {R : Value → World → Prop} (hg : gd ops e g = some true) {d : Tmp} (hd : Nat.blt d N = true)
    (hz : ev e z = some (.func (.func f) fi.toArray ca.toArray)) (hx : evl e xs = some vs) (hf : Run P f (fi ++ vs ++ ca) w R)
    (kk : ∀ v w', R v w' → WL P N ops Q rest ((d, v) :: e) w') : WL P N ops Q (⟨some d, .call ⟨.value z, xs.toArray, ats⟩, ty, pos, af, g⟩ :: rest) e w :=
  WL_do hg fun a ha => by
    have hxs := ha.evl hx
    unfold Oper.wp
    have hr : (execOp a.eval (⟨some d, .call ⟨.value z, xs.toArray, ats⟩, ty, pos, af, g⟩ : Oper)).run P w = .ok (.enter f (fi ++ vs ++ ca).toArray) w := by
      simp only [execOp, resolve, ha.ev hz, Deferred.ofValue, invoke, Sem.run_bind, Sem.run_pure, Result.andThen_ok]
      rw [show (xs.toArray.map a.eval) = vs.toArray by simp [hxs]]
      simpa using run_callFunc_ok hf.ok (fi ++ vs ++ ca).toArray w
    rw [hr]
    refine Calls.mono hf.calls fun en w' h => ?_
    obtain ⟨v, rfl, hR⟩ := h
    exact kk v w' hR _ (ha.put (dst := some d) hd v)
theorem o_makeFunc {fn : Go.Fn} {fs cs : List Operand} {fi ca : List Value} (hx : evl e fs = some fi) (hy : evl e cs = some ca) :
    PureOp P N e w ⟨dst, .makeFunc fn fs.toArray cs.toArray, ty, pos, af, g⟩ (.func fn fi.toArray ca.toArray) :=
  fun a ha => by
    have h1 := ha.evl hx
    have h2 := ha.evl hy
    simp [execOp, Instr.makeFunc, ← h1, ← h2]
end calls
end ops

/-! ### Regions that draw their order -/

/-- the lexical walk of a region whose operations are quiet in a class of worlds -/
def WQ (P : Program) (N : Nat) (ops : Array Oper) (C : World → Prop) (K : Env → Prop) (l : List Oper) (e : Env) : Prop :=
  ∀ a, Sat N e a → wpQuiet P ops C (fun a' => ∃ e', Sat N e' a' ∧ K e') l a

section quiet
variable {P : Program} {N : Nat} {ops : Array Oper} {C : World → Prop} {K : Env → Prop} {rest : List Oper} {e : Env}
  {ty : TypeId} {pos : String} {af : Array Edge} {g : Option (Nat × Bool)} {d : Tmp} {op : Op}
theorem W_quiet {Q : Post} {w : World} {id : Nat} {l : List Oper} (C : World → Prop) (hm : P.follows .mixedOrders = true) (hB : Region.lexB .any l.toArray = true) (hC : C w.drew)
    (h : WQ P N l.toArray C (fun e' => ∀ w', C w' → Q .normal e' w') l e) : W P N (.region id l.toArray true) Q e w := by
  intro a ha
  refine wp_region_quiet (C := C) hm hB hC ?_
  have := h a ha
  have hmono : ∀ (l' : List Oper) (a : Act), wpQuiet P l.toArray C (fun a' => ∃ e', Sat N e' a' ∧ ∀ w', C w' → Q .normal e' w') l' a → wpQuiet P l.toArray C (fun a' => ∀ w', C w' → up N Q .normal a' w') l' a := by
    intro l'
    induction l' with
    | nil => intro a h; obtain ⟨e', hs, hq⟩ := h; exact fun w' hw' => ⟨e', hs, hq w' hw'⟩
    | cons o r ih =>
      intro a h
      unfold wpQuiet at h ⊢
      split
      · rename_i hw; rw [if_pos hw] at h; exact Oper.quiet_mono ih h
      · rename_i hw; rw [if_neg hw] at h; exact ih _ h
  exact hmono _ _ (by simpa using this)
theorem WQ_nil (h : K e) : WQ P N ops C K [] e := fun _ ha => wpQuiet_nil ⟨e, ha, h⟩
theorem WQ_pure {v : Value} (hg : gd ops e g = some true) (hd : Nat.blt d N = true) (h : ∀ w', C w' → PureOp P N e w' ⟨some d, op, ty, pos, af, g⟩ v) (k : WQ P N ops C K rest ((d, v) :: e)) :
    WQ P N ops C K (⟨some d, op, ty, pos, af, g⟩ :: rest) e := by
  intro a ha
  unfold wpQuiet
  rw [if_pos (ha.wanted hg)]
  refine ⟨v, fun w' hw' => ?_, k _ (ha.put (dst := some d) hd v)⟩
  unfold Oper.quietAt
  rw [h w' hw' a ha]
  exact ⟨rfl, rfl⟩
theorem WQ_ex (hg : gd ops e g = some true) (hd : Nat.blt d N = true) (h : ∃ v, (∀ w', C w' → PureOp P N e w' ⟨some d, op, ty, pos, af, g⟩ v) ∧ WQ P N ops C K rest ((d, v) :: e)) :
    WQ P N ops C K (⟨some d, op, ty, pos, af, g⟩ :: rest) e := let ⟨_, h1, h2⟩ := h; WQ_pure hg hd h1 h2
theorem WQ_pass (hg : gd ops e g = some false) (hd : Nat.blt d N = true) (k : WQ P N ops C K rest ((d, undef) :: e)) :
    WQ P N ops C K (⟨some d, op, ty, pos, af, g⟩ :: rest) e := by
  intro a ha
  unfold wpQuiet
  rw [if_neg (by rw [ha.wanted hg]; simp)]
  exact k _ (ha.put (dst := some d) hd _)
theorem WQ_part {d : Option Tmp} {j : Nat} {want : Bool} {t : Nat} {b : Bool} (ht : (ops[j]?).bind (·.dst) = some t) (hv : find e t = some (.bool b))
    (h1 : b = true → WQ P N ops C K (⟨d, op, ty, pos, af, some (j, want)⟩ :: rest) ((t, .bool true) :: e)) (h0 : b = false → WQ P N ops C K (⟨d, op, ty, pos, af, some (j, want)⟩ :: rest) ((t, .bool false) :: e)) :
    WQ P N ops C K (⟨d, op, ty, pos, af, some (j, want)⟩ :: rest) e := by
  have key : ∀ b', b = b' → Has ((t, .bool b') :: []) e := fun b' hb => ⟨by rw [hv, hb], trivial⟩
  have sub : ∀ b', b = b' → ∀ a, Sat N e a → Sat N ((t, .bool b') :: e) a := fun b' hb a ha => ⟨ha.defers, ha.size, fun t' v' h' => by
    simp only [find] at h'
    rcases Bool.eq_false_or_eq_true (Nat.beq t t') with ht' | hf
    · rw [ht'] at h'
      have := Nat.eq_of_beq_eq_true ht'
      subst this
      have h2 : Value.bool b' = v' := by simpa using h'
      subst h2; subst hb
      exact ha.val _ _ hv
    · rw [hf] at h'; exact ha.val _ _ (by simpa using h')⟩
  intro a ha
  cases b with
  | true => exact h1 rfl a (sub true rfl a ha)
  | false => exact h0 rfl a (sub false rfl a ha)
theorem WQ_call {f : FuncId} {xs : List Operand} {ats : Array TypeId} {vs : List Value} {v : Value} (hg : gd ops e g = some true) (hd : Nat.blt d N = true)
    (hx : evl e xs = some vs) (hf : ∀ w', C w' → Run P f vs w' (fun r w'' => r = v ∧ C w''))
    (k : WQ P N ops C K rest ((d, v) :: e)) : WQ P N ops C K (⟨some d, .call ⟨.value (.func f), xs.toArray, ats⟩, ty, pos, af, g⟩ :: rest) e := by
  intro a ha
  unfold wpQuiet
  rw [if_pos (ha.wanted hg)]
  refine ⟨v, fun w' hw' => ?_, k _ (ha.put (dst := some d) hd v)⟩
  unfold Oper.quietAt
  have hxs := ha.evl hx
  have hr : (execOp a.eval (⟨some d, .call ⟨.value (.func f), xs.toArray, ats⟩, ty, pos, af, g⟩ : Oper)).run P w' = .ok (.enter f vs.toArray) w' := by
    simp only [execOp, resolve, Act.eval, Deferred.ofValue, invoke, Sem.run_bind, Sem.run_pure, Result.andThen_ok]
    rw [show (xs.toArray.map a.eval) = vs.toArray by simp [hxs]]
    simpa using run_callFunc_ok (hf w' hw').ok vs.toArray w'
  rw [hr]
  refine ⟨rfl, (hf w' hw').calls.mono fun en w'' h => ?_⟩
  obtain ⟨u, rfl, rfl, hR⟩ := h
  exact ⟨rfl, hR⟩
theorem WQ_callv {z : Operand} {f : FuncId} {xs : List Operand} {ats : Array TypeId} {vs fi ca : List Value} {v : Value} (hg : gd ops e g = some true) (hd : Nat.blt d N = true)
    (hz : ev e z = some (.func (.func f) fi.toArray ca.toArray)) (hx : evl e xs = some vs) (hf : ∀ w', C w' → Run P f (fi ++ vs ++ ca) w' (fun r w'' => r = v ∧ C w''))
    (k : WQ P N ops C K rest ((d, v) :: e)) : WQ P N ops C K (⟨some d, .call ⟨.value z, xs.toArray, ats⟩, ty, pos, af, g⟩ :: rest) e := by
  intro a ha
  unfold wpQuiet
  rw [if_pos (ha.wanted hg)]
  refine ⟨v, fun w' hw' => ?_, k _ (ha.put (dst := some d) hd v)⟩
  unfold Oper.quietAt
  have hxs := ha.evl hx
  have hr : (execOp a.eval (⟨some d, .call ⟨.value z, xs.toArray, ats⟩, ty, pos, af, g⟩ : Oper)).run P w' = .ok (.enter f (fi ++ vs ++ ca).toArray) w' := by
    simp only [execOp, resolve, ha.ev hz, Deferred.ofValue, invoke, Sem.run_bind, Sem.run_pure, Result.andThen_ok]
    rw [show (xs.toArray.map a.eval) = vs.toArray by simp [hxs]]
    simpa using run_callFunc_ok (hf w' hw').ok (fi ++ vs ++ ca).toArray w'
  rw [hr]
  refine ⟨rfl, (hf w' hw').calls.mono fun en w'' h => ?_⟩
  obtain ⟨u, rfl, rfl, hR⟩ := h
  exact ⟨rfl, hR⟩
end quiet

/-! a region that draws, operation by operation, in an order of our choosing for what only reads -/

def WD (P : Program) (N : Nat) (ops : Array Oper) (S : World → Prop) (Q : Post) (fuel : Nat) (listed : Array Bool) (e : Env) (w : World) : Prop :=
  ∀ a, Sat N e a → wpAnyH P .any ops (up N Q) S fuel listed a w

def NoPanics (Q : Post) : Prop := ∀ c e w, ¬ Q (.panic c) e w

theorem np_then {K : Env → World → Prop} {Q : Post} (h : NoPanics Q) : NoPanics (thenE K Q) := fun c e w hq => h c e w hq
theorem np_in {id : Nat} {Q : Post} (h : NoPanics Q) : NoPanics (inE id Q) := fun c e w hq => h c e w hq
theorem np_ret {P : Program} {N : Nat} {fn : Func} {R : Value → World → Prop} : NoPanics (retQ P N fn R) := fun _ _ _ hq => hq
section draws
variable {P : Program} {N : Nat} {ops : Array Oper} {S : World → Prop} {Q : Post} {fuel : Nat} {listed : Array Bool} {e : Env} {w : World}
theorem W_draw {id : Nat} {l : List Oper} (S : World → Prop) (hm : P.follows .mixedOrders = true)
    (h : WD P N l.toArray S Q l.length (Array.replicate l.length false) e w.drew) : W P N (.region id l.toArray true) Q e w :=
  fun a ha => wp_region_held (S := S) hm (by have := h a ha; simpa using this)
theorem WD_done (hr : Region.ready .any ops listed = []) (h : Q .normal e w) : WD P N ops S Q fuel listed e w :=
  fun _ ha => wpAnyH_done hr ⟨e, ha, h⟩ fuel
theorem WD_take (i : Nat) {d : Tmp} {op : Op} {ty : TypeId} {pos : String} {af : Array Edge} {g : Option (Nat × Bool)} {v : Value} (hi : ops[i]? = some ⟨some d, op, ty, pos, af, g⟩)
    (hs : Region.noSelect ops = true) (hf : Region.free .any ops listed i = true) (hr : (Region.ready .any ops listed).contains i = true) (hQ : NoPanics Q)
    (hg : gd ops e g = some true) (hd : Nat.blt d N = true) (h : ∀ w', S w' → PureOp P N e w' ⟨some d, op, ty, pos, af, g⟩ v) (hS : S w)
    (k : WD P N ops S Q fuel (listed.setIfInBounds i true) ((d, v) :: e) w) : WD P N ops S Q (fuel + 1) listed e w := by
  intro a ha
  refine wpAnyH_take (oi := ⟨some d, op, ty, pos, af, g⟩) (v := v) hi hs hf hr (fun c a w ⟨e', _, hq⟩ => (hQ c e' w hq).elim) (.inl ⟨ha.wanted hg, fun w' hw' => h w' hw' a ha⟩) hS ?_
  exact k _ (ha.put (dst := some d) hd v)
theorem WD_ex (i : Nat) {d : Tmp} {op : Op} {ty : TypeId} {pos : String} {af : Array Edge} {g : Option (Nat × Bool)} (hi : ops[i]? = some ⟨some d, op, ty, pos, af, g⟩)
    (hs : Region.noSelect ops = true) (hf : Region.free .any ops listed i = true) (hr : (Region.ready .any ops listed).contains i = true) (hQ : NoPanics Q)
    (hg : gd ops e g = some true) (hd : Nat.blt d N = true) (hS : S w) (h : ∃ v, (∀ w', S w' → PureOp P N e w' ⟨some d, op, ty, pos, af, g⟩ v) ∧ WD P N ops S Q fuel (listed.setIfInBounds i true) ((d, v) :: e) w) : WD P N ops S Q (fuel + 1) listed e w :=
  let ⟨_, h1, h2⟩ := h; WD_take i hi hs hf hr hQ hg hd h1 hS h2
theorem WD_pass (i : Nat) {d : Tmp} {op : Op} {ty : TypeId} {pos : String} {af : Array Edge} {g : Option (Nat × Bool)} (hi : ops[i]? = some ⟨some d, op, ty, pos, af, g⟩)
    (hs : Region.noSelect ops = true) (hf : Region.free .any ops listed i = true) (hr : (Region.ready .any ops listed).contains i = true) (hQ : NoPanics Q)
    (hg : gd ops e g = some false) (hd : Nat.blt d N = true) (hS : S w)
    (k : WD P N ops S Q fuel (listed.setIfInBounds i true) ((d, undef) :: e) w) : WD P N ops S Q (fuel + 1) listed e w := by
  intro a ha
  refine wpAnyH_take (oi := ⟨some d, op, ty, pos, af, g⟩) (v := undef) hi hs hf hr (fun c a w ⟨e', _, hq⟩ => (hQ c e' w hq).elim) (.inr ⟨ha.wanted hg, rfl⟩) hS ?_
  exact k _ (ha.put (dst := some d) hd _)
/-- whichever operation comes next: each of them as the first of a list of one -/
theorem WD_all {rs : List Nat} (hr : Region.ready .any ops listed = rs) (hne : rs ≠ [])
    (h : ∀ i ∈ rs, ∃ o, ops[i]? = some o ∧ WL P N ops (thenE (fun e' w' => S w' ∧ WD P N ops S Q fuel (listed.setIfInBounds i true) e' w') Q) [o] e w) : WD P N ops S Q (fuel + 1) listed e w := by
  intro a ha
  refine wpAnyH_all hr hne fun i hi => ?_
  obtain ⟨o, ho, hw⟩ := h i hi
  have h1 := hw a ha
  unfold wpOp
  simp only [ho]
  unfold wpList at h1
  have mono : ∀ (a' : Act) (w' : World), wpList P ops (up N (thenE (fun e' w' => S w' ∧ WD P N ops S Q fuel (listed.setIfInBounds i true) e' w') Q)) [] a' w' → S w' ∧ wpAnyH P .any ops (up N Q) S fuel (listed.setIfInBounds i true) a' w' := by
    rintro a' w' ⟨e', hs, hS, hq⟩
    exact ⟨hS, hq a' hs⟩
  have monoQ : ∀ (x : Exit) (a' : Act) (w' : World), x ≠ .normal → up N (thenE (fun e' w' => S w' ∧ WD P N ops S Q fuel (listed.setIfInBounds i true) e' w') Q) x a' w' → up N Q x a' w' := by
    rintro x a' w' hx ⟨e', hs, hq⟩
    cases x <;> first | exact absurd rfl hx | exact ⟨e', hs, hq⟩
  split
  · rename_i hw'
    rw [if_pos hw'] at h1
    rcases h1 with h1 | ⟨h1, a0, w0, h2⟩
    · left
      unfold Oper.wp at h1 ⊢
      generalize (execOp a.eval o).run P w = r at h1 ⊢
      cases r with
      | ok n w1 =>
        cases n <;> simp only [Oper.upon] at h1 ⊢
        case value u => exact mono _ _ h1
        case skip => exact mono _ _ h1
        case defer dd => exact mono _ _ h1
        case enter f args =>
          refine Calls.mono h1 fun en w'' he => ?_
          cases en with
          | returned u => exact mono _ _ he
          | panicked c => exact monoQ _ _ _ (by simp) he
          | outgrown => obtain ⟨a1, w1, h3⟩ := he; exact ⟨a1, w1, monoQ _ _ _ (by simp) h3⟩
        case row row args => exact Rows.mono h1 fun u w'' he => mono _ _ he
      | halt x w1 =>
        cases x <;> simp only [Oper.upon] at h1 ⊢
        case panic u => exact monoQ _ _ _ (by simp) h1
    · exact .inr ⟨h1, a0, w0, monoQ _ _ _ (by simp) h2⟩
  · rename_i hw'
    rw [if_neg hw'] at h1
    exact mono _ _ h1
theorem WD_one (i : Nat) {o : Oper} (hr : Region.ready .any ops listed = [i]) (ho : ops[i]? = some o)
    (h : WL P N ops (thenE (fun e' w' => S w' ∧ WD P N ops S Q fuel (listed.setIfInBounds i true) e' w') Q) [o] e w) : WD P N ops S Q (fuel + 1) listed e w :=
  WD_all hr (by simp) fun j hj => by
    have : j = i := by simpa using hj
    subst this
    exact ⟨o, ho, h⟩
/-- two operations may come next -/
theorem WD_two (i j : Nat) {o o' : Oper} (hr : Region.ready .any ops listed = [i, j]) (ho : ops[i]? = some o) (ho' : ops[j]? = some o')
    (h : WL P N ops (thenE (fun e' w' => S w' ∧ WD P N ops S Q fuel (listed.setIfInBounds i true) e' w') Q) [o] e w)
    (h' : WL P N ops (thenE (fun e' w' => S w' ∧ WD P N ops S Q fuel (listed.setIfInBounds j true) e' w') Q) [o'] e w) : WD P N ops S Q (fuel + 1) listed e w :=
  WD_all hr (by simp) fun k hk => by
    simp only [List.mem_cons, List.not_mem_nil, or_false] at hk
    rcases hk with rfl | rfl
    · exact ⟨o, ho, h⟩
    · exact ⟨o', ho', h'⟩
end draws

/-! regions whose effects come last: what is read ahead of them may be read in any order -/
def waits (ops : Array Oper) : Nat → Nat → Nat → Bool
  | 0, _, _ => false
  | f + 1, j, i => match ops[j]? with
    | none => false
    | some o => o.after.any fun e => Region.binds .any e && (e.on == i || waits ops f e.on i)
def Shut (ops : Array Oper) (listed : Array Bool) : Prop := ∀ j o, ops[j]? = some o → listed.getD j false = true → ∀ e ∈ o.after, Region.binds .any e = true → listed.getD e.on false = true
def late (lasts : List Nat) (listed : Array Bool) : Bool := lasts.any fun j => listed.getD j false
section late
variable {P : Program} {ops : Array Oper} {listed : Array Bool} {lasts : List Nat} {S : World → Prop}
theorem waits_listed (hs : Shut ops listed) : ∀ (f j i : Nat), listed.getD j false = true → waits ops f j i = true → listed.getD i false = true
  | 0, _, _, _, h => by simp [waits] at h
  | f + 1, j, i, hj, h => by
    simp only [waits] at h
    cases ho : ops[j]? with
    | none => simp [ho] at h
    | some o =>
      simp only [ho] at h
      obtain ⟨e, he, hb⟩ := Array.any_eq_true'.1 h
      simp only [Bool.and_eq_true, Bool.or_eq_true, beq_iff_eq] at hb
      have hl := hs j o ho hj e he hb.1
      rcases hb.2 with h2 | h2
      · rw [← h2]; exact hl
      · exact waits_listed hs f e.on i hl h2
theorem waits_ready (hs : Shut ops listed) {f j i : Nat} (hj : j ∈ Region.ready .any ops listed) (h : waits ops f j i = true) : listed.getD i false = true := by
  cases f with
  | zero => simp [waits] at h
  | succ f =>
    obtain ⟨_, o, ho, hall⟩ := mem_ready.1 hj
    simp only [waits, ho] at h
    obtain ⟨e, he, hb⟩ := Array.any_eq_true'.1 h
    simp only [Bool.and_eq_true, Bool.or_eq_true, beq_iff_eq] at hb
    have hl := hall e he hb.1
    rcases hb.2 with h2 | h2
    · rw [← h2]; exact hl
    · exact waits_listed hs f e.on i hl h2
theorem Shut.add (hs : Shut ops listed) {i : Nat} (hi : i ∈ Region.ready .any ops listed) : Shut ops (listed.setIfInBounds i true) := by
  intro j o ho hj e he hb
  by_cases hji : i = j
  · subst hji
    obtain ⟨_, o', ho', hall⟩ := mem_ready.1 hi
    rw [ho] at ho'
    simp only [Option.some.injEq] at ho'
    subst ho'
    exact getD_set_true (hall e he hb)
  · rw [getD_set_ne false hji] at hj
    exact getD_set_true (hs j o ho hj e he hb)
theorem ready_out {i : Nat} (hi : i ∈ Region.ready .any ops listed) : listed.getD i false = false := by
  have h0 := (mem_ready.1 hi).1
  rcases Nat.lt_or_ge i listed.size with h' | h'
  · simp [h'] at h0 ⊢; exact h0
  · simp [Array.getElem?_eq_none h']
theorem late_add {i : Nat} (hil : lasts.contains i = false) : late lasts (listed.setIfInBounds i true) = late lasts listed := by
  unfold late
  rw [Bool.eq_iff_iff, List.any_eq_true, List.any_eq_true]
  constructor <;> rintro ⟨j, hj, h⟩ <;> refine ⟨j, hj, ?_⟩ <;> have hne : i ≠ j := fun e => by { subst e; simp at hil; exact hil hj }
  · rwa [getD_set_ne false hne] at h
  · rw [getD_set_ne false hne]; exact h
theorem late_mono {i : Nat} (h : late lasts (listed.setIfInBounds i true) = false) : late lasts listed = false := by
  unfold late at h ⊢
  rw [List.any_eq_false] at h ⊢
  intro j hj hc
  exact h j hj (getD_set_true hc)
theorem late_no (hs : Shut ops listed) {f i : Nat} (hi : i ∈ Region.ready .any ops listed) (hw : lasts.all (fun j => waits ops f j i) = true) : late lasts listed = false := by
  unfold late
  rw [List.any_eq_false]
  intro j hj hc
  have := waits_listed hs f j i hc (List.all_eq_true.1 hw j hj)
  rw [ready_out hi] at this; cases this

def wpAnyL (P : Program) (ops : Array Oper) (Q : Exit → Act → World → Prop) (S : World → Prop) (lasts : List Nat) : Nat → Array Bool → Act → World → Prop
  | 0, listed, a, w => Region.ready .any ops listed = [] ∧ Q .normal a w
  | fuel + 1, listed, a, w =>
    (Region.ready .any ops listed = [] → Q .normal a w) ∧
    ∀ i ∈ Region.ready .any ops listed, wpOp P ops Q i (fun a' w' => (late lasts (listed.setIfInBounds i true) = false → S w') ∧ wpAnyL P ops Q S lasts fuel (listed.setIfInBounds i true) a' w') a w
theorem wpAny_of_late {Q : Exit → Act → World → Prop} : ∀ (fuel : Nat) (listed : Array Bool) (a : Act) (w : World), wpAnyL P ops Q S lasts fuel listed a w → wpAny P .any ops Q fuel listed a w
  | 0, _, _, _, h => h
  | fuel + 1, _, _, _, h => ⟨h.1, fun i hi => wpOp_mono (fun a' w' h' => wpAny_of_late fuel _ a' w' h'.2) (h.2 i hi)⟩
theorem wpAnyL_first {Q : Exit → Act → World → Prop} {T : World → Prop} {i f : Nat} {oi : Oper} {v : Value} (hi : ops[i]? = some oi) (hsel : ∀ (j : Nat) (o : Oper) cs b, ops[j]? = some o → o.op ≠ .select cs b)
    (hQ : ∀ c a w, Q (.panic c) (a.put oi.dst v) w → Q (.panic c) a w) (hil : lasts.contains i = false) (hT : (∀ w, T w) ∨ (T = S ∧ lasts.all (fun j => waits ops f j i) = true)) :
    ∀ (fuel : Nat) (listed : Array Bool) (a : Act) (w : World),
      (∀ j oj, ops[j]? = some oj → j ≠ i → listed.getD j true = false → (∀ e ∈ oj.after, Region.binds .any e = true → e.on ≠ i) → oi.apart ops oj = true) →
      i ∈ Region.ready .any ops listed → YieldsIf P ops T oi v a → Shut ops listed → (late lasts listed = false → S w) →
      wpAnyL P ops Q S lasts fuel (listed.setIfInBounds i true) (a.put oi.dst v) w → wpAnyL P ops Q S lasts (fuel + 1) listed a w := by
  intro fuel
  have getT : ∀ (listed : Array Bool) (w : World), i ∈ Region.ready .any ops listed → Shut ops listed → (late lasts listed = false → S w) → T w := by
    intro listed w hr hs hS
    rcases hT with h | ⟨rfl, hw⟩
    · exact h w
    · exact hS (late_no hs hr hw)
  induction fuel with
  | zero =>
    intro listed a w _ hr hy hs hS H
    refine ⟨fun h => (by rw [h] at hr; cases hr), fun j hj => ?_⟩
    by_cases hji : j = i
    · subst hji; exact hy.wpOp hi (getT listed w hr hs hS) ⟨fun h => hS (late_mono h), H⟩
    · have := ready_mono hj hji
      rw [H.1] at this
      cases this
  | succ fuel ih =>
    intro listed a w hfree hr hy hs hS H
    refine ⟨fun h => (by rw [h] at hr; cases hr), fun j hj => ?_⟩
    by_cases hji : j = i
    · subst hji; exact hy.wpOp hi (getT listed w hr hs hS) ⟨fun h => hS (late_mono h), H⟩
    · have h1 := H.2 j (ready_mono hj hji)
      obtain ⟨hjun, oj, hoj, hall⟩ := mem_ready.1 hj
      have hnot : ∀ e ∈ oj.after, Region.binds .any e = true → e.on ≠ i := fun e he hb heq => by
        have h1 := hall e he hb
        rw [heq, ready_out hr] at h1
        cases h1
      have h2 := wpOp_putIf hoj (hfree j oj hoj hji hjun hnot) (fun cs b => hsel i oi cs b hi) (fun cs b => hsel j oj cs b hoj) hQ hy h1
      have hfree' : ∀ k ok, ops[k]? = some ok → k ≠ i → (listed.setIfInBounds j true).getD k true = false →
          (∀ e ∈ ok.after, Region.binds .any e = true → e.on ≠ i) → oi.apart ops ok = true := fun k ok hk hki hun hno => by
        refine hfree k ok hk hki ?_ hno
        by_cases hjk : j = k
        · subst hjk; exact hjun
        · rw [getD_set_ne true hjk] at hun; exact hun
      have hcomm : (listed.setIfInBounds j true).setIfInBounds i true = (listed.setIfInBounds i true).setIfInBounds j true := Array.setIfInBounds_comm _ _ hji
      have hlate : late lasts ((listed.setIfInBounds i true).setIfInBounds j true) = late lasts (listed.setIfInBounds j true) := by
        rw [← hcomm]; exact late_add hil
      refine wpOp_mono (fun a' w' h3 => ?_) h2
      have hS' : late lasts (listed.setIfInBounds j true) = false → S w' := fun h => h3.2.1 (by rw [hlate]; exact h)
      refine ⟨hS', ih (listed.setIfInBounds j true) a' w' hfree' (ready_mono hr (Ne.symm hji)) h3.1 (hs.add hj) hS' ?_⟩
      rw [hcomm]
      exact h3.2.2
end late

/-- such a region, with the frame as a list of slots -/
def WE (P : Program) (N : Nat) (ops : Array Oper) (S : World → Prop) (lasts : List Nat) (Q : Post) (fuel : Nat) (listed : Array Bool) (e : Env) (w : World) : Prop :=
  ∀ a, Sat N e a → Shut ops listed → (late lasts listed = false → S w) → wpAnyL P ops (up N Q) S lasts fuel listed a w
section lates
variable {P : Program} {N : Nat} {ops : Array Oper} {S : World → Prop} {lasts : List Nat} {Q : Post} {fuel : Nat} {listed : Array Bool} {e : Env} {w : World}
theorem W_late {id : Nat} {l : List Oper} (S : World → Prop) (lasts : List Nat) (hm : P.follows .mixedOrders = true) (hS : S w.drew)
    (h : WE P N l.toArray S lasts Q l.length (Array.replicate l.length false) e w.drew) : W P N (.region id l.toArray true) Q e w :=
  fun a ha => wp_region_any hm (wpAny_of_late _ _ _ _ (by
    have := h a ha (fun j o _ hj => by
      exfalso
      by_cases hl : j < l.length
      · simp [hl] at hj
      · simp [hl] at hj) (fun _ => hS)
    simpa using this))
theorem WE_done (hr : Region.ready .any ops listed = []) (h : Q .normal e w) : WE P N ops S lasts Q fuel listed e w := by
  intro a ha _ _
  cases fuel with
  | zero => exact ⟨hr, e, ha, h⟩
  | succ f => exact ⟨fun _ => ⟨e, ha, h⟩, by rw [hr]; simp⟩
theorem WE_take (i f : Nat) {d : Tmp} {op : Op} {ty : TypeId} {pos : String} {af : Array Edge} {g : Option (Nat × Bool)} {v : Value} (hi : ops[i]? = some ⟨some d, op, ty, pos, af, g⟩)
    (hs : Region.noSelect ops = true) (hf : Region.free .any ops listed i = true) (hr : (Region.ready .any ops listed).contains i = true) (hil : lasts.contains i = false) (hw : lasts.all (fun j => waits ops f j i) = true) (hQ : NoPanics Q)
    (hg : gd ops e g = some true) (hd : Nat.blt d N = true) (h : ∀ w', S w' → PureOp P N e w' ⟨some d, op, ty, pos, af, g⟩ v)
    (k : WE P N ops S lasts Q fuel (listed.setIfInBounds i true) ((d, v) :: e) w) : WE P N ops S lasts Q (fuel + 1) listed e w := by
  intro a ha hsh hS
  have hr' : i ∈ Region.ready .any ops listed := by simpa using hr
  refine wpAnyL_first (T := S) (f := f) (oi := ⟨some d, op, ty, pos, af, g⟩) (v := v) hi (Region.noSelect_spec hs) (fun c a w ⟨e', _, hq⟩ => (hQ c e' w hq).elim) hil (.inr ⟨rfl, hw⟩) fuel listed a w (Region.free_spec hi hf) hr' (.inl ⟨ha.wanted hg, fun w' hw' => h w' hw' a ha⟩) hsh hS ?_
  exact k _ (ha.put (dst := some d) hd v) (hsh.add hr') (fun h => hS (late_mono h))
theorem WE_ex (i : Nat) {d : Tmp} {op : Op} {ty : TypeId} {pos : String} {af : Array Edge} {g : Option (Nat × Bool)} (hi : ops[i]? = some ⟨some d, op, ty, pos, af, g⟩)
    (hs : Region.noSelect ops = true) (hf : Region.free .any ops listed i = true) (hr : (Region.ready .any ops listed).contains i = true) (hil : lasts.contains i = false) (hw : lasts.all (fun j => waits ops 40 j i) = true) (hQ : NoPanics Q)
    (hg : gd ops e g = some true) (hd : Nat.blt d N = true) (h : ∃ v, (∀ w', S w' → PureOp P N e w' ⟨some d, op, ty, pos, af, g⟩ v) ∧ WE P N ops S lasts Q fuel (listed.setIfInBounds i true) ((d, v) :: e) w) : WE P N ops S lasts Q (fuel + 1) listed e w :=
  let ⟨_, h1, h2⟩ := h; WE_take i 40 hi hs hf hr hil hw hQ hg hd h1 h2
/-- what leaves every world alone may be taken at any time -/
theorem WE_takeP (i : Nat) {d : Tmp} {op : Op} {ty : TypeId} {pos : String} {af : Array Edge} {g : Option (Nat × Bool)} {v : Value} (hi : ops[i]? = some ⟨some d, op, ty, pos, af, g⟩)
    (hs : Region.noSelect ops = true) (hf : Region.free .any ops listed i = true) (hr : (Region.ready .any ops listed).contains i = true) (hil : lasts.contains i = false) (hQ : NoPanics Q)
    (hg : gd ops e g = some true) (hd : Nat.blt d N = true) (h : ∀ w', PureOp P N e w' ⟨some d, op, ty, pos, af, g⟩ v)
    (k : WE P N ops S lasts Q fuel (listed.setIfInBounds i true) ((d, v) :: e) w) : WE P N ops S lasts Q (fuel + 1) listed e w := by
  intro a ha hsh hS
  have hr' : i ∈ Region.ready .any ops listed := by simpa using hr
  refine wpAnyL_first (T := fun _ => True) (f := 0) (oi := ⟨some d, op, ty, pos, af, g⟩) (v := v) hi (Region.noSelect_spec hs) (fun c a w ⟨e', _, hq⟩ => (hQ c e' w hq).elim) hil (.inl fun _ => trivial) fuel listed a w (Region.free_spec hi hf) hr' (.inl ⟨ha.wanted hg, fun w' _ => h w' a ha⟩) hsh hS ?_
  exact k _ (ha.put (dst := some d) hd v) (hsh.add hr') (fun h => hS (late_mono h))
theorem WE_exP (i : Nat) {d : Tmp} {op : Op} {ty : TypeId} {pos : String} {af : Array Edge} {g : Option (Nat × Bool)} (hi : ops[i]? = some ⟨some d, op, ty, pos, af, g⟩)
    (hs : Region.noSelect ops = true) (hf : Region.free .any ops listed i = true) (hr : (Region.ready .any ops listed).contains i = true) (hil : lasts.contains i = false) (hQ : NoPanics Q)
    (hg : gd ops e g = some true) (hd : Nat.blt d N = true) (h : ∃ v, (∀ w', PureOp P N e w' ⟨some d, op, ty, pos, af, g⟩ v) ∧ WE P N ops S lasts Q fuel (listed.setIfInBounds i true) ((d, v) :: e) w) : WE P N ops S lasts Q (fuel + 1) listed e w :=
  let ⟨_, h1, h2⟩ := h; WE_takeP i hi hs hf hr hil hQ hg hd h1 h2
theorem WE_pass (i : Nat) {d : Tmp} {op : Op} {ty : TypeId} {pos : String} {af : Array Edge} {g : Option (Nat × Bool)} (hi : ops[i]? = some ⟨some d, op, ty, pos, af, g⟩)
    (hs : Region.noSelect ops = true) (hf : Region.free .any ops listed i = true) (hr : (Region.ready .any ops listed).contains i = true) (hil : lasts.contains i = false) (hQ : NoPanics Q)
    (hg : gd ops e g = some false) (hd : Nat.blt d N = true)
    (k : WE P N ops S lasts Q fuel (listed.setIfInBounds i true) ((d, undef) :: e) w) : WE P N ops S lasts Q (fuel + 1) listed e w := by
  intro a ha hsh hS
  have hr' : i ∈ Region.ready .any ops listed := by simpa using hr
  refine wpAnyL_first (T := fun _ => True) (f := 0) (oi := ⟨some d, op, ty, pos, af, g⟩) (v := undef) hi (Region.noSelect_spec hs) (fun c a w ⟨e', _, hq⟩ => (hQ c e' w hq).elim) hil (.inl fun _ => trivial) fuel listed a w (Region.free_spec hi hf) hr' (.inr ⟨ha.wanted hg, rfl⟩) hsh hS ?_
  exact k _ (ha.put (dst := some d) hd _) (hsh.add hr') (fun h => hS (late_mono h))
theorem WE_all {rs : List Nat} (K : Nat → Env → World → Prop) (hr : Region.ready .any ops listed = rs) (hne : rs ≠ [])
    (hk : ∀ i, i ∈ rs → ∀ e' w', K i e' w' → (late lasts (listed.setIfInBounds i true) = false → S w') ∧ WE P N ops S lasts Q fuel (listed.setIfInBounds i true) e' w')
    (h : ∀ i ∈ rs, ∃ o, ops[i]? = some o ∧ WL P N ops (thenE (K i) Q) [o] e w) : WE P N ops S lasts Q (fuel + 1) listed e w := by
  intro a ha hsh hS
  refine ⟨fun h0 => absurd (hr ▸ h0) hne, fun i hi => ?_⟩
  obtain ⟨o, ho, hw⟩ := h i (hr ▸ hi)
  have h1 := hw a ha
  unfold wpOp
  simp only [ho]
  unfold wpList at h1
  have mono : ∀ (a' : Act) (w' : World), wpList P ops (up N (thenE (K i) Q)) [] a' w' → (late lasts (listed.setIfInBounds i true) = false → S w') ∧ wpAnyL P ops (up N Q) S lasts fuel (listed.setIfInBounds i true) a' w' := by
    rintro a' w' ⟨e', hs, hK⟩
    obtain ⟨hS', hq⟩ := hk i (hr ▸ hi) e' w' hK
    exact ⟨hS', hq a' hs (hsh.add hi) hS'⟩
  have monoQ : ∀ (x : Exit) (a' : Act) (w' : World), x ≠ .normal → up N (thenE (K i) Q) x a' w' → up N Q x a' w' := by
    rintro x a' w' hx ⟨e', hs, hq⟩
    cases x <;> first | exact absurd rfl hx | exact ⟨e', hs, hq⟩
  split
  · rename_i hw'
    rw [if_pos hw'] at h1
    rcases h1 with h1 | ⟨h1, a0, w0, h2⟩
    · left
      unfold Oper.wp at h1 ⊢
      generalize (execOp a.eval o).run P w = r at h1 ⊢
      cases r with
      | ok n w1 =>
        cases n <;> simp only [Oper.upon] at h1 ⊢
        case value u => exact mono _ _ h1
        case skip => exact mono _ _ h1
        case defer dd => exact mono _ _ h1
        case enter f args =>
          refine Calls.mono h1 fun en w'' he => ?_
          cases en with
          | returned u => exact mono _ _ he
          | panicked c => exact monoQ _ _ _ (by simp) he
          | outgrown => obtain ⟨a1, w1, h3⟩ := he; exact ⟨a1, w1, monoQ _ _ _ (by simp) h3⟩
        case row row args => exact Rows.mono h1 fun u w'' he => mono _ _ he
      | halt x w1 =>
        cases x <;> simp only [Oper.upon] at h1 ⊢
        case panic u => exact monoQ _ _ _ (by simp) h1
    · exact .inr ⟨h1, a0, w0, monoQ _ _ _ (by simp) h2⟩
  · rename_i hw'
    rw [if_neg hw'] at h1
    exact mono _ _ h1
/-- the one operation that may come next: S is to hold behind it -/
theorem WE_one (i : Nat) {o : Oper} (hr : Region.ready .any ops listed = [i]) (ho : ops[i]? = some o)
    (h : WL P N ops (thenE (fun e' w' => S w' ∧ WE P N ops S lasts Q fuel (listed.setIfInBounds i true) e' w') Q) [o] e w) : WE P N ops S lasts Q (fuel + 1) listed e w :=
  WE_all (fun j e' w' => S w' ∧ WE P N ops S lasts Q fuel (listed.setIfInBounds j true) e' w') hr (by simp) (fun j _ e' w' hq => ⟨fun _ => hq.1, hq.2⟩) fun j hj => by
    have : j = i := by simpa using hj
    subst this
    exact ⟨o, ho, h⟩
/-- one of the last ones -/
theorem WE_last (i : Nat) {o : Oper} (hr : Region.ready .any ops listed = [i]) (ho : ops[i]? = some o) (hl : late lasts (listed.setIfInBounds i true) = true)
    (h : WL P N ops (thenE (fun e' w' => WE P N ops S lasts Q fuel (listed.setIfInBounds i true) e' w') Q) [o] e w) : WE P N ops S lasts Q (fuel + 1) listed e w :=
  WE_all (fun j e' w' => WE P N ops S lasts Q fuel (listed.setIfInBounds j true) e' w') hr (by simp) (fun j hj e' w' hq => ⟨fun hf => (by
      have : j = i := by simpa using hj
      subst this
      rw [hl] at hf; cases hf), hq⟩) fun j hj => by
    have : j = i := by simpa using hj
    subst this
    exact ⟨o, ho, h⟩
end lates

theorem Run.kp {P : Program} {f : FuncId} {args : List Value} {w0 w : World} {u : Value} (h : Run P f args w fun v w' => v = u ∧ w = w') (hk : Keep w0 w) : Run P f args w fun v w' => v = u ∧ Keep w0 w' :=
  h.mono fun _ _ ⟨a, b⟩ => ⟨a, b ▸ hk⟩
theorem Run.kk {P : Program} {f : FuncId} {args : List Value} {w0 w : World} {u : Value} (h : Run P f args w fun v w' => v = u ∧ Keep w w') (hk : Keep w0 w) : Run P f args w fun v w' => v = u ∧ Keep w0 w' :=
  h.mono fun _ _ ⟨a, b⟩ => ⟨a, hk.keep b⟩
end Go.E
namespace Go.E
open Go Go.RowKit

/-! ### How a value lies in cells -/

/-- 'rep w x cs fp': the cells cs hold x; fp are the blocks that are reached behind them -/
structure Rp (α : Type) where
  sz : Nat
  rep : World → α → List Value → List Nat → Prop
  len : ∀ {w x cs fp}, rep w x cs fp → cs.length = sz
  dom : ∀ {w x cs fp}, rep w x cs fp → ∀ b, b ∈ fp → b < w.heap.size
  same : ∀ {w w' x cs fp}, rep w x cs fp → (∀ b, b ∈ fp → w'.heap[b]? = w.heap[b]?) → rep w' x cs fp
  one : ∀ {w x cs fp}, rep w x cs fp → ∀ v, v ∈ cs → v.oneCell' = true

def Rows {α : Type} (R : Rp α) (w : World) : List α → List Value → List Nat → Prop
  | [], cs, fp => cs = [] ∧ fp = []
  | x :: xs, cs, fp => ∃ c1 c2 f1 f2, cs = c1 ++ c2 ∧ fp = f1 ++ f2 ∧ R.rep w x c1 f1 ∧ Rows R w xs c2 f2

section rows
variable {α : Type} {R : Rp α} {w w' : World}
theorem Rows.len : ∀ {xs : List α} {cs : List Value} {fp : List Nat}, Rows R w xs cs fp → cs.length = xs.length * R.sz
  | [], cs, fp, h => by simp [h.1]
  | x :: xs, cs, fp, h => by
    obtain ⟨c1, c2, f1, f2, rfl, rfl, h1, h2⟩ := h
    rw [List.length_append, R.len h1, h2.len, List.length_cons, Nat.succ_mul]; omega
theorem Rows.dom : ∀ {xs : List α} {cs : List Value} {fp : List Nat}, Rows R w xs cs fp → ∀ b, b ∈ fp → b < w.heap.size
  | [], cs, fp, h => by simp [h.2]
  | x :: xs, cs, fp, h => by
    obtain ⟨c1, c2, f1, f2, rfl, rfl, h1, h2⟩ := h
    intro b hb
    rcases List.mem_append.1 hb with hb | hb
    · exact R.dom h1 b hb
    · exact h2.dom b hb
theorem Rows.same : ∀ {xs : List α} {cs : List Value} {fp : List Nat}, Rows R w xs cs fp → (∀ b, b ∈ fp → w'.heap[b]? = w.heap[b]?) → Rows R w' xs cs fp
  | [], cs, fp, h, _ => h
  | x :: xs, cs, fp, h, hs => by
    obtain ⟨c1, c2, f1, f2, rfl, rfl, h1, h2⟩ := h
    exact ⟨c1, c2, f1, f2, rfl, rfl, R.same h1 fun b hb => hs b (List.mem_append.2 (.inl hb)), h2.same fun b hb => hs b (List.mem_append.2 (.inr hb))⟩
theorem Rows.keep {xs : List α} {cs : List Value} {fp : List Nat} (h : Rows R w xs cs fp) (k : Keep w w') : Rows R w' xs cs fp :=
  h.same fun b hb => k.block b (h.dom b hb)
theorem Rows.one : ∀ {xs : List α} {cs : List Value} {fp : List Nat}, Rows R w xs cs fp → ∀ v, v ∈ cs → v.oneCell' = true
  | [], cs, fp, h => by simp [h.1]
  | x :: xs, cs, fp, h => by
    obtain ⟨c1, c2, f1, f2, rfl, rfl, h1, h2⟩ := h
    intro v hv
    rcases List.mem_append.1 hv with hv | hv
    · exact R.one h1 v hv
    · exact h2.one v hv
theorem Rows.append : ∀ {xs ys : List α} {cs ds : List Value} {fp gp : List Nat}, Rows R w xs cs fp → Rows R w ys ds gp → Rows R w (xs ++ ys) (cs ++ ds) (fp ++ gp)
  | [], ys, cs, ds, fp, gp, h, h' => by obtain ⟨rfl, rfl⟩ := h; exact h'
  | x :: xs, ys, cs, ds, fp, gp, h, h' => by
    obtain ⟨c1, c2, f1, f2, rfl, rfl, h1, h2⟩ := h
    exact ⟨c1, c2 ++ ds, f1, f2 ++ gp, by simp, by simp, h1, h2.append h'⟩
theorem Rows.single {x : α} {cs : List Value} {fp : List Nat} (h : R.rep w x cs fp) : Rows R w [x] cs fp := ⟨cs, [], fp, [], by simp, by simp, h, rfl, rfl⟩
/-- the k-th element -/
theorem Rows.get : ∀ {xs : List α} {cs : List Value} {fp : List Nat}, Rows R w xs cs fp → ∀ (k : Nat) (hk : k < xs.length),
    ∃ c f, R.rep w xs[k] c f ∧ (∀ b, b ∈ f → b ∈ fp) ∧ (∀ j u, c[j]? = some u → cs[k * R.sz + j]? = some u)
  | x :: xs, cs, fp, h, 0, _ => by
    obtain ⟨c1, c2, f1, f2, rfl, rfl, h1, h2⟩ := h
    refine ⟨c1, f1, h1, fun b hb => List.mem_append.2 (.inl hb), fun j u hu => ?_⟩
    have hj : j < c1.length := (List.getElem?_eq_some_iff.1 hu).1
    simp only [Nat.zero_mul, Nat.zero_add]
    rw [List.getElem?_append_left hj]; exact hu
  | x :: xs, cs, fp, h, k + 1, hk => by
    obtain ⟨c1, c2, f1, f2, rfl, rfl, h1, h2⟩ := h
    obtain ⟨c, f, hr, hf, hc⟩ := h2.get k (by simpa using hk)
    refine ⟨c, f, by simpa using hr, fun b hb => List.mem_append.2 (.inr (hf b hb)), fun j u hu => ?_⟩
    have hl := R.len h1
    rw [List.getElem?_append_right (by rw [Nat.succ_mul]; omega)]
    rw [show (k + 1) * R.sz + j - c1.length = k * R.sz + j by rw [Nat.succ_mul]; omega]
    exact hc j u hu
theorem Rows.take : ∀ {xs : List α} {cs : List Value} {fp : List Nat}, Rows R w xs cs fp → ∀ (k : Nat), ∃ f, Rows R w (xs.take k) (cs.take (k * R.sz)) f ∧ (∃ f2, fp = f ++ f2 ∧ Rows R w (xs.drop k) (cs.drop (k * R.sz)) f2)
  | [], cs, fp, h, k => by obtain ⟨rfl, rfl⟩ := h; exact ⟨[], by simp [Rows], [], rfl, by simp [Rows]⟩
  | x :: xs, cs, fp, h, 0 => ⟨[], by simp [Rows], fp, rfl, by simpa using h⟩
  | x :: xs, cs, fp, h, k + 1 => by
    obtain ⟨c1, c2, f1, f2, rfl, rfl, h1, h2⟩ := h
    obtain ⟨f, hr, g, hg, hd⟩ := h2.take k
    have hl := R.len h1
    subst hg
    have e1 : (c1 ++ c2).take ((k + 1) * R.sz) = c1 ++ c2.take (k * R.sz) := by
      rw [List.take_append, show (k + 1) * R.sz - c1.length = k * R.sz by rw [Nat.succ_mul]; omega, List.take_of_length_le (by rw [Nat.succ_mul]; omega)]
    have e2 : (c1 ++ c2).drop ((k + 1) * R.sz) = c2.drop (k * R.sz) := by
      rw [List.drop_append, show (k + 1) * R.sz - c1.length = k * R.sz by rw [Nat.succ_mul]; omega, List.drop_of_length_le (by rw [Nat.succ_mul]; omega)]; rfl
    refine ⟨f1 ++ f, ⟨c1, c2.take (k * R.sz), f1, f, e1, rfl, h1, by simpa using hr⟩, g, by simp, ?_⟩
    rw [e2]; simpa using hd
end rows

/-- a slice value that reads as a list; fp: the blocks that are reached -/
def Sl {α : Type} (R : Rp α) (w : World) (v : Value) (xs : List α) (fp : List Nat) : Prop :=
  ∃ A c cells fi, v = .slice A xs.length c ∧ (xs.length ≤ c ∧ c ≤ 9223372036854775807) ∧ Rows R w xs cells fi ∧
    ((cells = [] ∧ xs = [] ∧ fp = fi) ∨ ∃ ad, A = some ad ∧ ad.block < w.heap.size ∧ (∀ j u, cells[j]? = some u → w.cell? (ad.add j) = some u) ∧ fp = ad.block :: fi)

def gi {α : Type} [Inhabited α] (xs : List α) (i : Int) : α := xs.getD i.toNat default

theorem gi_nat {α : Type} [Inhabited α] (xs : List α) (k : Nat) : gi xs (k : Int) = xs.getD k default := rfl
theorem gi_lt {α : Type} [Inhabited α] {xs : List α} {k : Nat} (h : k < xs.length) : gi xs (k : Int) = xs[k] := by simp [gi, h]
theorem drop_gi {α : Type} [Inhabited α] {xs : List α} {k : Nat} (h : k < xs.length) : xs.drop k = gi xs (k : Int) :: xs.drop (k + 1) := by
  rw [gi_lt h, List.drop_eq_getElem_cons h]
theorem take_gi {α : Type} [Inhabited α] {xs : List α} {k : Nat} (h : k < xs.length) : xs.take (k + 1) = xs.take k ++ [gi xs (k : Int)] := by
  rw [gi_lt h, List.take_succ_eq_append_getElem h]

theorem cell_heap {w w' : World} {ad : Addr} (h : w'.heap[ad.block]? = w.heap[ad.block]?) : w'.cell? ad = w.cell? ad := World.cell?_of_block (w := w) h
theorem block_add (a : Addr) (n : Nat) : (a.add n).block = a.block := by unfold Addr.add; split <;> rfl
theorem add_add (a : Addr) (i j : Nat) : (a.add i).add j = a.add (i + j) := by
  unfold Addr.add
  by_cases hi : i = 0 <;> by_cases hj : j = 0 <;> simp [hi, hj, Nat.add_assoc]

section sl
variable {α : Type} {R : Rp α} {w w' : World} {v : Value} {xs : List α} {fp : List Nat}
theorem Sl.dom (h : Sl R w v xs fp) : ∀ b, b ∈ fp → b < w.heap.size := by
  obtain ⟨A, c, cells, fi, rfl, hlc, hr, h⟩ := h
  rcases h with ⟨_, _, rfl⟩ | ⟨ad, rfl, hlt, hc, rfl⟩
  · exact hr.dom
  · intro b hb
    rcases List.mem_cons.1 hb with rfl | hb
    · exact hlt
    · exact hr.dom b hb
theorem lt_of_heap {b : Nat} (h : w'.heap[b]? = w.heap[b]?) (hb : b < w.heap.size) : b < w'.heap.size := by
  rcases Nat.lt_or_ge b w'.heap.size with hl | hg
  · exact hl
  · rw [Array.getElem?_eq_none hg, Array.getElem?_eq_getElem hb] at h; cases h
theorem Sl.same (h : Sl R w v xs fp) (hs : ∀ b, b ∈ fp → w'.heap[b]? = w.heap[b]?) : Sl R w' v xs fp := by
  obtain ⟨A, c, cells, fi, rfl, hlc, hr, h⟩ := h
  rcases h with ⟨h1, h2, rfl⟩ | ⟨ad, rfl, hlt, hc, rfl⟩
  · exact ⟨A, c, cells, fp, rfl, hlc, hr.same hs, .inl ⟨h1, h2, rfl⟩⟩
  · refine ⟨some ad, c, cells, fi, rfl, hlc, hr.same fun b hb => hs b (List.mem_cons_of_mem _ hb), .inr ⟨ad, rfl, lt_of_heap (hs _ (List.mem_cons_self ..)) hlt, fun j u hu => ?_, rfl⟩⟩
    rw [cell_heap (w := w) (by rw [block_add]; exact hs _ (List.mem_cons_self ..))]
    exact hc j u hu
theorem Sl.keep (h : Sl R w v xs fp) (k : Keep w w') : Sl R w' v xs fp := h.same fun b hb => k.block b (h.dom b hb)
theorem Sl.upd (h : Sl R w v xs fp) {b : Nat} {t : TypeId} {cs : List Value} (k : Upd w w' b t cs) (hb : b ∉ fp) : Sl R w' v xs fp :=
  h.same fun b' hb' => k.other b' fun e => hb (e ▸ hb')
theorem Sl.form (h : Sl R w v xs fp) : ∃ A c, v = .slice A xs.length c ∧ xs.length ≤ c ∧ c ≤ 9223372036854775807 := by
  obtain ⟨A, c, cells, fi, rfl, hlc, _⟩ := h
  exact ⟨A, c, rfl, hlc⟩
/-- an element: where it lies, and what it reads as -/
theorem Sl.get {A : Option Addr} {n c : Nat} [Inhabited α] (h : Sl R w (.slice A n c) xs fp) {i : Int} (h0 : 0 ≤ i) (hi : i < n) :
    A.isSome = true ∧ ∃ cs f, R.rep w (gi xs i) cs f ∧ (∀ b, b ∈ f → b ∈ fp) ∧ Cells w (ea A R.sz i) cs := by
  obtain ⟨A', c', cells, fi, he, hlc, hr, h⟩ := h
  simp only [Value.slice.injEq] at he
  obtain ⟨rfl, rfl, rfl⟩ := he
  obtain ⟨k, rfl⟩ := Int.eq_ofNat_of_zero_le h0
  have hk : k < xs.length := by omega
  rcases h with ⟨_, h2, _⟩ | ⟨ad, rfl, hlt, hc, rfl⟩
  · subst h2; simp at hk
  · refine ⟨rfl, ?_⟩
    obtain ⟨cs, f, h1, h2, h3⟩ := hr.get k hk
    refine ⟨cs, f, by rw [show gi xs ((k : Nat) : Int) = xs[k] from gi_lt hk]; exact h1, fun b hb => List.mem_cons_of_mem _ (h2 b hb), _, rfl, fun j u hu => ?_⟩
    rw [add_add]
    exact hc _ u (by simpa using h3 j u hu)
theorem Sl.nil {c : Nat} (hc : c ≤ 9223372036854775807) (A : Option Addr) : Sl R w (.slice A 0 c) [] [] := ⟨A, c, [], [], rfl, ⟨Nat.zero_le _, hc⟩, ⟨rfl, rfl⟩, .inl ⟨rfl, rfl, rfl⟩⟩
end sl

/-! ### The data of the program -/

def intR : Rp Int where
  sz := 1
  rep _ x cs fp := cs = [.int .i64 x] ∧ fp = []
  len h := by simp [h.1]
  dom h := by simp [h.2]
  same h _ := h
  one h := by simp [h.1, Value.oneCell']

theorem Sl.getI {w : World} {A : Option Addr} {n c : Nat} {xs : List Int} {fp : List Nat} (h : Sl intR w (.slice A n c) xs fp) {i : Int} (h0 : 0 ≤ i) (hi : i < n) :
    A.isSome = true ∧ Cell w (ea A 1 i) (.int .i64 (gi xs i)) := by
  obtain ⟨hA, cs, f, ⟨rfl, _⟩, _, hc⟩ := h.get h0 hi
  refine ⟨hA, ?_⟩
  obtain ⟨ad, h1, h2⟩ := hc
  exact ⟨ad, h1, by have := h2 0 _ rfl; simpa [Addr.add] using this⟩
theorem Sl.oneCell {α : Type} {R : Rp α} {w : World} {v : Value} {xs : List α} {fp : List Nat} (h : Sl R w v xs fp) : v.oneCell' = true := by
  obtain ⟨A', c', cells, fi, rfl, _⟩ := h
  rfl
theorem Sl.len {α : Type} {R : Rp α} {w : World} {A : Option Addr} {n c : Nat} {xs : List α} {fp : List Nat} (h : Sl R w (.slice A n c) xs fp) : n = xs.length := by
  obtain ⟨A', c', cells, fi, he, _⟩ := h
  simp only [Value.slice.injEq] at he
  exact he.2.1
theorem Sl.le {α : Type} {R : Rp α} {w : World} {v : Value} {xs : List α} {fp : List Nat} (h : Sl R w v xs fp) : xs.length ≤ 9223372036854775807 := by
  obtain ⟨A', c', cells, fi, he, hlc, _⟩ := h
  omega
theorem Sl.caps {α : Type} {R : Rp α} {w : World} {A : Option Addr} {n c : Nat} {xs : List α} {fp : List Nat} (h : Sl R w (.slice A n c) xs fp) : n ≤ c ∧ c ≤ 9223372036854775807 := by
  obtain ⟨A', c', cells, fi, he, hlc, _⟩ := h
  simp only [Value.slice.injEq] at he
  obtain ⟨_, rfl, rfl⟩ := he
  exact hlc
theorem Sl.split {α : Type} {R : Rp α} {w : World} {v : Value} {xs : List α} {fp : List Nat} (h : Sl R w v xs fp) : ∃ A n c, v = .slice A n c ∧ n = xs.length := by
  obtain ⟨A, c, cells, fi, rfl, _⟩ := h
  exact ⟨A, _, c, rfl, rfl⟩

def slR {α : Type} (R : Rp α) : Rp (List α) where
  sz := 1
  rep w x cs fp := ∃ v, cs = [v] ∧ Sl R w v x fp
  len h := by obtain ⟨v, rfl, _⟩ := h; rfl
  dom h := by obtain ⟨v, rfl, h⟩ := h; exact h.dom
  same h hs := by obtain ⟨v, rfl, h⟩ := h; exact ⟨v, rfl, h.same hs⟩
  one h := by
    obtain ⟨v, rfl, h⟩ := h
    obtain ⟨A, c, rfl, _⟩ := h.form
    simp [Value.oneCell']

structure Itm where
  id : Int
  vals : List Int

structure Wsh where
  kind : Int
  field : Int
  value : Int
  list : List Int
  pairs : List (Int × Int)

structure Nod where
  op : Int
  wish : Wsh

structure Rwt where
  rule : Int
  place : Int
  after : List Nod

instance : Inhabited Itm := ⟨⟨0, []⟩⟩
instance : Inhabited Wsh := ⟨⟨0, 0, 0, [], []⟩⟩
instance : Inhabited Nod := ⟨⟨0, default⟩⟩
instance : Inhabited Rwt := ⟨⟨0, 0, []⟩⟩
instance : DecidableEq Itm := fun a b => decidable_of_iff (a.id = b.id ∧ a.vals = b.vals) (by cases a; cases b; simp)
instance : DecidableEq Wsh := fun a b => decidable_of_iff (a.kind = b.kind ∧ a.field = b.field ∧ a.value = b.value ∧ a.list = b.list ∧ a.pairs = b.pairs) (by cases a; cases b; simp)
instance : DecidableEq Nod := fun a b => decidable_of_iff (a.op = b.op ∧ a.wish = b.wish) (by cases a; cases b; simp)
instance : DecidableEq Rwt := fun a b => decidable_of_iff (a.rule = b.rule ∧ a.place = b.place ∧ a.after = b.after) (by cases a; cases b; simp)

def itemR : Rp Itm where
  sz := 2
  rep w x cs fp := ∃ v, cs = [.int .i64 x.id, v] ∧ Sl intR w v x.vals fp
  len h := by obtain ⟨v, rfl, _⟩ := h; rfl
  dom h := by obtain ⟨v, rfl, h⟩ := h; exact h.dom
  same h hs := by obtain ⟨v, rfl, h⟩ := h; exact ⟨v, rfl, h.same hs⟩
  one h := by
    obtain ⟨v, rfl, h⟩ := h
    obtain ⟨A, c, rfl, _⟩ := h.form
    simp [Value.oneCell']

def pairR : Rp (Int × Int) where
  sz := 2
  rep _ x cs fp := cs = [.int .i64 x.1, .int .i64 x.2] ∧ fp = []
  len h := by simp [h.1]
  dom h := by simp [h.2]
  same h _ := h
  one h := by simp [h.1, Value.oneCell']

def wishR : Rp Wsh where
  sz := 5
  rep w x cs fp := ∃ v u f1 f2, cs = [.int .i64 x.kind, .int .i64 x.field, .int .i64 x.value, v, u] ∧ fp = f1 ++ f2 ∧ Sl intR w v x.list f1 ∧ Sl pairR w u x.pairs f2
  len h := by obtain ⟨v, u, f1, f2, rfl, _⟩ := h; rfl
  dom h := by
    obtain ⟨v, u, f1, f2, rfl, rfl, h1, h2⟩ := h
    intro b hb
    rcases List.mem_append.1 hb with hb | hb
    · exact h1.dom b hb
    · exact h2.dom b hb
  same h hs := by
    obtain ⟨v, u, f1, f2, rfl, rfl, h1, h2⟩ := h
    exact ⟨v, u, f1, f2, rfl, rfl, h1.same fun b hb => hs b (List.mem_append.2 (.inl hb)), h2.same fun b hb => hs b (List.mem_append.2 (.inr hb))⟩
  one h := by
    obtain ⟨v, u, f1, f2, rfl, rfl, h1, h2⟩ := h
    obtain ⟨A, c, rfl, _⟩ := h1.form
    obtain ⟨A, c, rfl, _⟩ := h2.form
    simp [Value.oneCell']

def nodeR : Rp Nod where
  sz := 6
  rep w x cs fp := ∃ c, cs = .int .i64 x.op :: c ∧ wishR.rep w x.wish c fp
  len h := by obtain ⟨c, rfl, h⟩ := h; have := wishR.len h; simp [this, wishR]
  dom h := by obtain ⟨v, rfl, h⟩ := h; exact wishR.dom h
  same h hs := by obtain ⟨v, rfl, h⟩ := h; exact ⟨v, rfl, wishR.same h hs⟩
  one h := by
    obtain ⟨c, rfl, h⟩ := h
    intro v hv
    rcases List.mem_cons.1 hv with rfl | hv
    · rfl
    · exact wishR.one h v hv

def rewR : Rp Rwt where
  sz := 3
  rep w x cs fp := ∃ v, cs = [.int .i64 x.rule, .int .i64 x.place, v] ∧ Sl nodeR w v x.after fp
  len h := by obtain ⟨v, rfl, _⟩ := h; rfl
  dom h := by obtain ⟨v, rfl, h⟩ := h; exact h.dom
  same h hs := by obtain ⟨v, rfl, h⟩ := h; exact ⟨v, rfl, h.same hs⟩
  one h := by
    obtain ⟨v, rfl, h⟩ := h
    obtain ⟨A, c, rfl, _⟩ := h.form
    simp [Value.oneCell']
end Go.E
set_option linter.unusedVariables false
set_option linter.unusedSimpArgs false
namespace Go.E
open Go Go.RowKit

theorem one_cells {v : Value} (h : v.oneCell' = true) : v.cells = #[v] := by
  cases v <;> simp_all [Value.oneCell', Value.cells]

theorem upd_setRow {w : World} {b : Nat} {t : TypeId} {cs : List Value} (hb : Blk w b t cs) (cs' : List Value) : Upd w (w.setRow b cs'.toArray) b t cs' :=
  ⟨rfl, rfl, rfl, by simp, fun k hk => setRow_other w b k _ hk, setRow_heap w b _ _ t _ hb⟩

theorem Upd.below {w w' : World} {b : Nat} {t : TypeId} {cs : List Value} (h : Upd w w' b t cs) {B : Nat} (hb : B ≤ b) : Below B w w' :=
  ⟨h.os, h.tape, h.output, by rw [h.size]; exact Nat.le_refl _, fun k hk => h.other k (by omega)⟩
/-- a write into a block that was not there when the old world was -/
theorem Keep.upd {w0 w w' : World} {b : Nat} {t : TypeId} {cs : List Value} (h : Keep w0 w) (k : Upd w w' b t cs) (hb : w0.heap.size ≤ b) : Keep w0 w' :=
  Below.trans h (k.below hb)

theorem ea_some {A : Option Addr} {sz : Nat} {i : Int} (h : A.isSome = true) : (ea A sz i).isSome = true := by simpa [ea] using h
theorem fa_some {p : Option Addr} {o : Nat} (h : p.isSome = true) : (fa p o).isSome = true := by simpa [fa] using h
theorem Cells.at_ {w : World} {p : Option Addr} {vs : List Value} (h : Cells w p vs) {j : Nat} {v : Value} (hv : vs[j]? = some v) : Cell w (fa p j) v := by
  obtain ⟨ad, rfl, hc⟩ := h
  exact ⟨_, rfl, hc j v hv⟩
theorem ones_nil : ∀ v : Value, v ∈ ([] : List Value) → v.oneCell' = true := fun v hv => by cases hv
theorem ones_cons {u : Value} {us : List Value} (h : u.oneCell' = true) (k : ∀ v : Value, v ∈ us → v.oneCell' = true) : ∀ v : Value, v ∈ u :: us → v.oneCell' = true := fun v hv => by
  rcases List.mem_cons.1 hv with rfl | hv
  · exact h
  · exact k v hv
theorem fa_fa (p : Option Addr) (a b : Nat) : fa (fa p a) b = fa p (a + b) := by
  cases p with
  | none => rfl
  | some ad => simp [fa, add_add]
theorem Cells.at2 {w : World} {p : Option Addr} {vs : List Value} (h : Cells w p vs) {i j : Nat} {v : Value} (hv : vs[i + j]? = some v) : Cell w (fa (fa p i) j) v := by
  rw [fa_fa]; exact h.at_ hv
theorem Blk.at2 {w : World} {b : Nat} {t : TypeId} {cs : List Value} (h : Blk w b t cs) {i j : Nat} {v : Value} (hv : cs[i + j]? = some v) : Cell w (fa (fa (some ⟨b, 0, none⟩) i) j) v := by
  rw [fa_fa]; exact h.fcell hv
theorem Cells.tail1 {w : World} {p : Option Addr} {v : Value} {vs : List Value} (h : Cells w p (v :: vs)) : Cells w (fa p 1) vs := by
  obtain ⟨ad, rfl, hc⟩ := h
  exact ⟨_, rfl, fun j u hu => by rw [add_add, Nat.add_comm]; exact hc (j + 1) u hu⟩
theorem Blk.tail1 {w : World} {b : Nat} {t : TypeId} {v : Value} {vs : List Value} (h : Blk w b t (v :: vs)) : Cells w (fa (some ⟨b, 0, none⟩) 1) vs := h.cells.tail1
theorem ea_blk (b o sz : Nat) (k : Nat) : ea (some ⟨b, o, none⟩) sz (k : Int) = some ⟨b, o + k * sz, none⟩ := by simp [ea, add_mk]
theorem fa_blk (b o f : Nat) : fa (some ⟨b, o, none⟩) f = some ⟨b, o + f, none⟩ := by simp [fa, add_mk]

section ops
variable {P : Program} {N : Nat} {ops : Array Oper} {Q : Post} {rest : List Oper} {e : Env} {w : World}
  {dst : Option Tmp} {ty : TypeId} {pos : String} {af : Array Edge} {g : Option (Nat × Bool)} {x y z : Operand} {t el : TypeId} {sz bytes : Nat} {zc : List Value} {p : Option Addr} {d : Tmp}

theorem o_store1 [he : ElemT P t 1 bytes zc] {b off : Nat} {cs : List Value} {tt : TypeId} {v : Value} (hg : gd ops e g = some true) (hx : ev e x = some (.pointer p)) (hp : p = some ⟨b, off, none⟩) (hy : ev e y = some v)
    (h1 : v.oneCell' = true) (hb : Blk w b tt cs) (ho : off < cs.length) (kk : ∀ w', Upd w w' b tt (cs.set off v) → WL P N ops Q rest e w') :
    WL P N ops Q (⟨none, .store t x y, ty, pos, af, g⟩ :: rest) e w := by
  subst hp
  refine WL_unit (o := ⟨none, .store t x y, ty, pos, af, g⟩) (w' := w.setRow b (cs.set off v).toArray) hg rfl (fun a ha => ?_) (kk _ (upd_setRow hb _))
  have := run_storeCells_at (P := P) b off tt [v] 0 cs.toArray w hb (by simp; omega) (by simpa using h1)
  have e1 : (cs.toArray.toList.take (off + 0) ++ [v] ++ cs.toArray.toList.drop (off + 0 + [v].length)) = cs.set off v := by
    simp [List.set_eq_take_append_cons_drop, ho]
  rw [e1] at this
  simp [execOp, ha.ev hx, ha.ev hy, Instr.storeAt, Instr.sureAddr, storeVar, one_cells h1, run_sizeOf he, this]

theorem o_storeS [he : ElemT P t sz bytes zc] {b off : Nat} {cs vs : List Value} {tt : TypeId} (hg : gd ops e g = some true) (hx : ev e x = some (.pointer p)) (hp : p = some ⟨b, off, none⟩) (hy : ev e y = some (.agg vs.toArray))
    (h1 : ∀ v, v ∈ vs → v.oneCell' = true) (hl : vs.length = sz) (hb : Blk w b tt cs) (ho : off + sz ≤ cs.length) (kk : ∀ w', Upd w w' b tt (cs.take off ++ vs ++ cs.drop (off + sz)) → WL P N ops Q rest e w') :
    WL P N ops Q (⟨none, .store t x y, ty, pos, af, g⟩ :: rest) e w := by
  subst hp; subst hl
  refine WL_unit (o := ⟨none, .store t x y, ty, pos, af, g⟩) (w' := w.setRow b (cs.take off ++ vs ++ cs.drop (off + vs.length)).toArray) hg rfl (fun a ha => ?_) (kk _ (upd_setRow hb _))
  have := run_storeCells_at (P := P) b off tt vs 0 cs.toArray w hb (by simp; omega) h1
  simp at this
  simp [execOp, ha.ev hx, ha.ev hy, Instr.storeAt, Instr.sureAddr, storeVar, Value.cells, run_sizeOf he, this]

/-! slices of a given length -/
theorem o_makeSlice [ht : SliceT P t el] [he : ElemT P el sz bytes zc] {k k' : IntKind} {l c : Nat} (hg : gd ops e g = some true) (hd : Nat.blt d N = true) (hx : ev e x = some (.int k l)) (hy : ev e y = some (.int k' c))
    (hlc : l ≤ c) (hc : c * bytes ≤ 140737488355328) (hc2 : c ≤ 9223372036854775807)
    (kk : ∀ b w' zs, Al w w' b el zs → zs.length = c * sz → (∀ u, u ∈ zs → u ∈ zc) → WL P N ops Q rest ((d, .slice (some ⟨b, 0, none⟩) l c) :: e) w') :
    WL P N ops Q (⟨some d, .makeSlice t x y, ty, pos, af, g⟩ :: rest) e w := by
  have hzl : zc.length = sz := he.l
  let zs : List Value := ((Array.range (c * sz)).map (zc.toArray[· % zc.toArray.size]!)).toList
  have hzs : zs.length = c * sz := by simp [zs]
  have hmem : ∀ u, u ∈ zs → u ∈ zc := by
    intro u hu
    simp only [zs, Array.toList_map, List.mem_map, Array.toList_range, List.mem_range] at hu
    obtain ⟨i, hi, rfl⟩ := hu
    have hpos : 0 < sz := by
      rcases Nat.eq_zero_or_pos sz with h | h
      · subst h; simp at hi
      · exact h
    have hlt : i % zc.toArray.size < zc.toArray.size := Nat.mod_lt _ (by simp; omega)
    rw [getElem!_pos zc.toArray _ hlt]
    simp
  refine WL_val (o := ⟨some d, .makeSlice t x y, ty, pos, af, g⟩) (w' := w.alloc (.cells zs.toArray el)) (v := .slice (some ⟨w.heap.size, 0, none⟩) l c) hg hd (fun a ha => ?_) (kk _ _ zs ⟨rfl, rfl⟩ hzs hmem)
  obtain ⟨i, zv, hi, h1, h2, h3, h4⟩ := he.get
  have hwl : IntKind.i64.wrap (l : Int) = l := wrap_i64 (by omega) (by omega)
  have hwc : IntKind.i64.wrap (c : Int) = c := wrap_i64 (by omega) (by omega)
  have hb : ¬ ((bytes : Int) * c > 2 ^ 48) := by
    have : (bytes : Int) * c = ((c * bytes : Nat) : Int) := by rw [Int.mul_comm]; simp
    rw [this]; omega
  have hroom : ¬ (c * bytes > roomBytes) := by simp only [roomBytes]; omega
  have hz : (if c * sz = 0 then (pure #[] : Sem (Array Value)) else do pure (← zeroValue el).cells).run P w = .ok (if c * sz = 0 then #[] else zc.toArray) w := by
    split
    · rfl
    · simp [zeroValue, typeInfo, run_program, hi, h3, h4]
  simp only [execOp, ha.ev hx, ha.ev hy, Instr.makeSlice, asInt, asIntOf, underlying, run_program, ht.u, typeInfo, hi, h2, hwl, hwc, Sem.run_bind, Sem.run_pure, Result.andThen_ok, run_sizeOf he, Int.toNat_natCast, askRoom]
  have hb' : (bytes : Int) * (c : Int) ≤ 281474976710656 := by omega
  have c1 : (decide ((c : Int) < 0) || decide ((bytes : Int) * (c : Int) > 2 ^ 48)) = false := by simp; exact hb'
  have c2 : decide ((l : Int) < 0) = false := by simp
  have c3 : decide ((l : Int) > (c : Int)) = false := by simp; omega
  have hnew : ∀ (cs : Array Value), (newRow el cs).run P w = .ok ⟨w.heap.size, 0, none⟩ (w.alloc (.cells cs el)) := fun cs => by simp [newRow, run_newObj]
  simp only [c1, c2, c3, Bool.or_false, Bool.false_or, Bool.false_eq_true, if_false, Sem.run_bind, Sem.run_pure, Result.andThen_ok, if_neg hroom, run_sizeOf he]
  by_cases h0 : c * sz = 0
  · simp only [h0, if_true, Sem.run_bind, Sem.run_pure, Result.andThen_ok, hnew]
    have : zs = [] := List.eq_nil_of_length_eq_zero (by omega)
    have h00 : ∀ f : Nat → Value, Array.map f (Array.range 0) = #[] := fun f => Array.eq_empty_of_size_eq_zero (by simp)
    rw [this, h00]
  · simp only [h0, if_false, Sem.run_bind, Sem.run_pure, Result.andThen_ok, hnew, zeroValue, typeInfo, run_program, hi, h3, h4]
    rfl

theorem foldl_splice : ∀ (l : List Value) (j0 off : Nat) (cells : Array Value), off + j0 + l.length ≤ cells.size →
    (l.zipIdx j0).foldl (fun cs (p : Value × Nat) => cs.setIfInBounds (off + p.2) p.1) cells = (cells.toList.take (off + j0) ++ l ++ cells.toList.drop (off + j0 + l.length)).toArray
  | [], j0, off, cells, _ => by simp
  | v :: r, j0, off, cells, h => by
    simp only [List.length_cons] at h
    rw [List.zipIdx_cons, List.foldl_cons, foldl_splice r (j0 + 1) off _ (by simp; omega)]
    congr 1
    have hlt : off + j0 < cells.toList.length := by simp; omega
    have hset : (cells.setIfInBounds (off + j0) v).toList = cells.toList.take (off + j0) ++ v :: cells.toList.drop (off + j0 + 1) := by
      rw [Array.toList_setIfInBounds, List.set_eq_take_append_cons_drop, if_pos hlt]
    have hl : (cells.toList.take (off + j0)).length = off + j0 := by rw [List.length_take]; omega
    have e1 : (cells.setIfInBounds (off + j0) v).toList.take (off + (j0 + 1)) = cells.toList.take (off + j0) ++ [v] := by
      rw [hset, List.take_append, hl, show off + (j0 + 1) - (off + j0) = 1 by omega, List.take_of_length_le (by omega)]; rfl
    have e2 : (cells.setIfInBounds (off + j0) v).toList.drop (off + (j0 + 1) + r.length) = cells.toList.drop (off + j0 + (v :: r).length) := by
      rw [hset, List.drop_append, hl, List.drop_of_length_le (by omega), List.nil_append, show off + (j0 + 1) + r.length - (off + j0) = r.length + 1 by omega, List.drop_succ_cons, List.drop_drop]
      congr 1; simp only [List.length_cons]; omega
    rw [e1, e2, List.append_assoc, List.append_assoc, List.append_assoc]; rfl

/-- places in order, from a number on -/
def inOrder {α : Type} : Nat → List (Nat × α) → Bool
  | _, [] => true
  | i, (k, _) :: r => Nat.beq k i && inOrder (i + 1) r

theorem fill_row (sz : Nat) : ∀ (ps : List (Nat × Value)) (k : Nat) (cells : Array Value), inOrder k ps = true → (∀ p, p ∈ ps → p.2.cells.size = sz) → (k + ps.length) * sz ≤ cells.size →
    Instr.fill (fun i => some (i * sz, sz)) cells ps = some (cells.toList.take (k * sz) ++ ps.flatMap (fun p => p.2.cells.toList) ++ cells.toList.drop ((k + ps.length) * sz)).toArray
  | [], k, cells, _, _, _ => by simp [Instr.fill]
  | (i, v) :: r, k, cells, ho, hs, hl => by
    simp only [inOrder, Bool.and_eq_true] at ho
    have hi : i = k := Nat.eq_of_beq_eq_true ho.1
    subst hi
    have hv : v.cells.size = sz := hs (i, v) (List.mem_cons_self ..)
    simp only [List.length_cons] at hl
    have hle : i * sz + sz ≤ cells.size := by
      have : (i + 1) * sz ≤ (i + (r.length + 1)) * sz := Nat.mul_le_mul_right _ (by omega)
      rw [Nat.succ_mul] at this; omega
    have hfold : v.cells.zipIdx.foldl (fun cs (p : Value × Nat) => cs.setIfInBounds (i * sz + p.2) p.1) cells = (cells.toList.take (i * sz) ++ v.cells.toList ++ cells.toList.drop (i * sz + sz)).toArray := by
      have := foldl_splice v.cells.toList 0 (i * sz) cells (by simp [hv]; exact hle)
      rw [← Array.foldl_toList, Array.toList_zipIdx]
      simpa [hv] using this
    simp only [Instr.fill, hv, ne_eq, not_true_eq_false, decide_false, Bool.false_or, decide_eq_true_eq, show ¬ (i * sz + sz > cells.size) by omega, if_false]
    have ih := fill_row sz r (i + 1) (cells.toList.take (i * sz) ++ v.cells.toList ++ cells.toList.drop (i * sz + sz)).toArray ho.2 (fun p hp => hs p (List.mem_cons_of_mem _ hp)) (by
      simp [hv]
      have : (i + 1 + r.length) * sz = (i + (r.length + 1)) * sz := by congr 1; omega
      rw [this]; omega)
    have hA : (cells.toList.take (i * sz)).length = i * sz := by rw [List.length_take]; simp; omega
    have hV : v.cells.toList.length = sz := by simpa using hv
    have e1 : (cells.toList.take (i * sz) ++ v.cells.toList ++ cells.toList.drop (i * sz + sz)).take ((i + 1) * sz) = cells.toList.take (i * sz) ++ v.cells.toList := by
      rw [List.take_append, List.length_append, hA, hV, show (i + 1) * sz - (i * sz + sz) = 0 by rw [Nat.succ_mul]; omega, List.take_zero, List.append_nil, List.take_of_length_le (by rw [List.length_append, hA, hV, Nat.succ_mul]; omega)]
    have e2 : (cells.toList.take (i * sz) ++ v.cells.toList ++ cells.toList.drop (i * sz + sz)).drop ((i + 1 + r.length) * sz) = cells.toList.drop ((i + (r.length + 1)) * sz) := by
      have hm : (i + 1 + r.length) * sz = i * sz + sz + r.length * sz := by rw [Nat.add_mul, Nat.succ_mul]
      have hm2 : (i + (r.length + 1)) * sz = i * sz + sz + r.length * sz := by rw [← hm]; congr 1; omega
      rw [List.drop_append, List.length_append, hA, hV, hm, hm2, List.drop_of_length_le (by rw [List.length_append, hA, hV]; omega), List.nil_append, List.drop_drop]
      congr 1; omega
    have key : Instr.fill (fun i => some (i * sz, sz)) (v.cells.zipIdx.foldl (fun cs (p : Value × Nat) => cs.setIfInBounds (i * sz + p.2) p.1) cells) r = some (cells.toList.take (i * sz) ++ List.flatMap (fun p => p.2.cells.toList) ((i, v) :: r) ++ cells.toList.drop ((i + ((i, v) :: r).length) * sz)).toArray := by
      simp only [List.toList_toArray] at ih
      rw [e1, e2] at ih
      rw [hfold, ih]
      simp only [List.flatMap_cons, List.append_assoc, List.length_cons]
    exact key

def evp (e : Env) : List (Nat × Operand) → Option (List (Nat × Value))
  | [] => some []
  | (i, x) :: r => match ev e x with
    | none => none
    | some v => match evp e r with
      | none => none
      | some vs => some ((i, v) :: vs)

theorem _root_.Go.E.Sat.evp {N : Nat} {e : Env} {a : Act} (h : Sat N e a) : ∀ {xs : List (Nat × Operand)} {vs : List (Nat × Value)}, E.evp e xs = some vs → xs.map (fun p => (p.1, a.eval p.2)) = vs
  | [], vs, hv => by simp only [E.evp, Option.some.injEq] at hv; simp [hv]
  | (i, x) :: r, vs, hv => by
    simp only [E.evp] at hv
    cases hx : E.ev e x with
    | none => rw [hx] at hv; cases hv
    | some v =>
      rw [hx] at hv
      simp only at hv
      cases hr : E.evp e r with
      | none => rw [hr] at hv; cases hv
      | some us =>
        rw [hr] at hv
        simp only [Option.some.injEq] at hv
        rw [← hv, List.map_cons, h.ev hx, h.evp hr]

theorem o_buildSlice [ht : SliceT P t el] [he : ElemT P el sz bytes zc] {n : Nat} {ps : List (Nat × Operand)} {vs : List (Nat × Value)} (hg : gd ops e g = some true) (hd : Nat.blt d N = true)
    (hx : evp e ps = some vs) (hord : inOrder 0 vs = true) (hn : vs.length = n) (hs : ∀ p, p ∈ vs → p.2.cells.size = sz) (hsm : n * sz ≤ 16777216)
    (kk : ∀ b w', Al w w' b el (vs.flatMap fun p => p.2.cells.toList) → WL P N ops Q rest ((d, .slice (some ⟨b, 0, none⟩) n n) :: e) w') :
    WL P N ops Q (⟨some d, .buildSlice t n ps.toArray, ty, pos, af, g⟩ :: rest) e w := by
  refine WL_val (o := ⟨some d, .buildSlice t n ps.toArray, ty, pos, af, g⟩) (w' := w.alloc (.cells (vs.flatMap fun p => p.2.cells.toList).toArray el)) (v := .slice (some ⟨w.heap.size, 0, none⟩) n n) hg hd (fun a ha => ?_) (kk _ _ ⟨rfl, rfl⟩)
  have hps := ha.evp hx
  have hzl : zc.length = sz := he.l
  obtain ⟨i, zv, hi, h1, h2, h3, h4⟩ := he.get
  have hnew : ∀ (cs : Array Value), (newRow el cs).run P w = .ok ⟨w.heap.size, 0, none⟩ (w.alloc (.cells cs el)) := fun cs => by simp [newRow, run_newObj]
  have hpa : ps.toArray.map (fun p => (p.1, a.eval p.2)) = vs.toArray := by simp [hps]
  have hfill : ∀ cells : Array Value, cells.size = n * sz → Instr.fill (fun i => some (i * sz, sz)) cells vs = some (vs.flatMap fun p => p.2.cells.toList).toArray := fun cells hc => by
    rw [fill_row sz vs 0 cells hord hs (by rw [Nat.zero_add, hn]; omega)]
    congr 2
    rw [Nat.zero_mul, List.take_zero, List.nil_append, Nat.zero_add, hn, List.drop_of_length_le (by simp; omega), List.append_nil]
  simp only [execOp, Instr.buildSlice, Sem.run_bind, Sem.run_pure, Result.andThen_ok, underlying, run_program, ht.u, run_sizeOf he, if_neg (show ¬ (n * sz > 2 ^ 24) by omega)]
  by_cases h0 : n * sz = 0
  · have h00 : ∀ f : Nat → Value, Array.map f (Array.range 0) = #[] := fun f => Array.eq_empty_of_size_eq_zero (by simp)
    simp only [h0, if_true, Sem.run_bind, Sem.run_pure, Result.andThen_ok, hpa, List.toList_toArray, h00]
    rw [hfill #[] (by simp [h0])]
    simp [hnew]
  · simp only [h0, if_false, Sem.run_bind, Sem.run_pure, Result.andThen_ok, zeroValue, typeInfo, run_program, hi, h3, h4, hpa, List.toList_toArray]
    rw [hfill _ (by simp)]
    simp [hnew]

/-! struct values -/
theorem o_build {ps : List (Nat × Operand)} {vs : List (Nat × Value)} {cs : List Value} (hx : evp e ps = some vs) (hb : ∀ w, (Instr.build t vs.toArray).run P w = .ok (.agg cs.toArray) w) :
    PureOp P N e w ⟨dst, .build t ps.toArray, ty, pos, af, g⟩ (.agg cs.toArray) := fun a ha => by
  have hps := ha.evp hx
  have hpa : ps.toArray.map (fun p => (p.1, a.eval p.2)) = vs.toArray := by simp [hps]
  simp only [execOp, Sem.run_bind, hpa, hb, Result.andThen_ok, Sem.run_pure]

def fillL (pl : List (Nat × Nat)) (cells : List Value) : List (Nat × Value) → Option (List Value)
  | [] => some cells
  | (i, v) :: r => match pl[i]? with
    | none => none
    | some (off, size) => if v.cells.toList.length = size ∧ off + v.cells.toList.length ≤ cells.length then fillL pl (cells.take off ++ v.cells.toList ++ cells.drop (off + v.cells.toList.length)) r else none
theorem fill_eq (pl : List (Nat × Nat)) : ∀ (vs : List (Nat × Value)) (cells cs : List Value), fillL pl cells vs = some cs → Instr.fill (fun i => pl[i]?) cells.toArray vs = some cs.toArray
  | [], cells, cs, h => by
    simp only [fillL, Option.some.injEq] at h
    simp [Instr.fill, h]
  | (i, v) :: r, cells, cs, h => by
    simp only [fillL] at h
    cases hp : pl[i]? with
    | none => simp [hp] at h
    | some q =>
      obtain ⟨off, size⟩ := q
      simp only [hp] at h
      split at h
      · rename_i hc
        have ih := fill_eq pl r _ cs h
        have hf := foldl_splice v.cells.toList 0 off cells.toArray (by simpa using hc.2)
        simp only [Instr.fill, hp]
        rw [if_neg (by simp; exact ⟨by simpa using hc.1, by simpa using hc.2⟩)]
        rw [← ih, ← Array.foldl_toList, Array.toList_zipIdx]
        congr 1
      · cases h
theorem run_places (w : World) : ∀ (fs : List Field) (pl : List (Nat × Nat)), fs.map (fun f => (P.info? f.type).map fun i => (f.offset, i.size)) = pl.map some →
    (fs.mapM fun f => do pure (f.offset, ← sizeOf f.type) : Sem (List (Nat × Nat))).run P w = .ok pl w
  | [], pl, h => by
    cases pl with
    | nil => rfl
    | cons p r => simp at h
  | f :: r, pl, h => by
    cases pl with
    | nil => simp at h
    | cons p q =>
      simp only [List.map_cons, List.cons.injEq] at h
      have ih := run_places w r q h.2
      cases hi : P.info? f.type with
      | none => simp [hi] at h
      | some i =>
        simp only [hi, Option.map_some, Option.some.injEq] at h
        have hsz : (sizeOf f.type).run P w = .ok i.size w := by simp [sizeOf, typeInfo, run_program, hi]
        simp only [List.mapM_cons, Sem.run_bind, Sem.run_pure, Result.andThen_ok, hsz, ih]
        rw [h.1]
theorem o_buildT {pl : List (Nat × Nat)} [he : ElemT P t sz bytes zc] [hs : StructT P t pl] {ps : List (Nat × Operand)} {vs : List (Nat × Value)} {cs : List Value} (hx : evp e ps = some vs) (hb : fillL pl zc vs = some cs) :
    PureOp P N e w ⟨dst, .build t ps.toArray, ty, pos, af, g⟩ (.agg cs.toArray) :=
  o_build hx fun w' => by
    have := hs.u
    cases hu : P.underlying t with
    | none => simp [hu] at this
    | some d =>
      cases d with
      | struct fs =>
        simp only [hu, decide_eq_true_eq] at this
        obtain ⟨zv, hz, hzc⟩ := run_zero (P := P) he w'
        have hm := run_places (P := P) w' fs.toList pl this
        have hfs : fs = fs.toList.toArray := by simp
        simp only [Instr.build, Sem.run_bind, hz, Result.andThen_ok, underlying, run_program, hu, Sem.run_pure]
        rw [hfs, List.mapM_toArray]
        simp only [Sem.run_map, hm, Sem.run_bind, Result.andThen_ok, Sem.run_pure, hzc]
        have := fill_eq pl vs zc cs hb
        simp [this]
      | _ => simp [hu] at this

theorem o_boxS {vs : List Value} (hg : gd ops e g = some true) (hd : Nat.blt d N = true) (hx : ev e x = some (.agg vs.toArray))
    (kk : ∀ b w', Al w w' b t vs → WL P N ops Q rest ((d, .pointer (some ⟨b, 0, none⟩)) :: e) w') : WL P N ops Q (⟨some d, .box t x, ty, pos, af, g⟩ :: rest) e w :=
  o_box hg hd hx fun b w' h => kk b w' ⟨h.b_eq, by rw [h.w_eq]; simp [Value.cells]⟩

/-! reslicing -/
section sl
variable {A : Option Addr} {n c h l : Nat} {k k' : IntKind} {hi lo : Operand}
theorem o_slice_hi [ht : SliceT P t el] [he : ElemT P el sz bytes zc] (hx : ev e x = some (.slice A n c)) (hy : ev e hi = some (.int k (h : Nat))) (hc : h ≤ c) :
    PureOp P N e w ⟨dst, .slice t x none (some hi) none, ty, pos, af, g⟩ (.slice A h c) := fun a ha => by
  have h1 : (h : Int) ≤ c := by omega
  have h2 : (A.map (·.add 0)) = A := by cases A <;> simp [Addr.add]
  simp [execOp, Instr.sliceAt, underlying, run_program, ht.u, ha.ev hx, ha.ev hy, Instr.slice, Instr.sliceBounds, Instr.sliceBound, asIntOf, h1, run_sizeOf he, h2]
  intro hh; omega
theorem o_slice_lo [ht : SliceT P t el] [he : ElemT P el sz bytes zc] (hx : ev e x = some (.slice A n c)) (hy : ev e lo = some (.int k (l : Nat))) (hl : l ≤ n) :
    PureOp P N e w ⟨dst, .slice t x (some lo) none none, ty, pos, af, g⟩ (.slice (if c = l then A else A.map (·.add (l * sz))) (n - l) (c - l)) := fun a ha => by
  have h1 : (l : Int) ≤ n := by omega
  simp [execOp, Instr.sliceAt, underlying, run_program, ht.u, ha.ev hx, ha.ev hy, Instr.slice, Instr.sliceBounds, Instr.sliceBound, asIntOf, h1, run_sizeOf he]
  intro hh; omega
theorem o_slice_lh [ht : SliceT P t el] [he : ElemT P el sz bytes zc] (hx : ev e x = some (.slice A n c)) (hy : ev e lo = some (.int k (l : Nat))) (hz : ev e hi = some (.int k' (h : Nat))) (hl : l ≤ h) (hc : h ≤ c) :
    PureOp P N e w ⟨dst, .slice t x (some lo) (some hi) none, ty, pos, af, g⟩ (.slice (if c = l then A else A.map (·.add (l * sz))) (h - l) (c - l)) := fun a ha => by
  have h1 : (l : Int) ≤ h := by omega
  have h2 : (h : Int) ≤ c := by omega
  simp [execOp, Instr.sliceAt, underlying, run_program, ht.u, ha.ev hx, ha.ev hy, ha.ev hz, Instr.slice, Instr.sliceBounds, Instr.sliceBound, asIntOf, h1, h2, run_sizeOf he]
  rw [if_pos hc, if_pos hl]
end sl
end ops

/-! a result that lies in memory -/
theorem retc {P : Program} {N : Nat} {fn : Func} {R : Value → World → Prop} {e : Env} {w : World} {a : Tmp} {t : TypeId} {p : Option Addr} {sz bytes : Nat} {zc vs : List Value} [ht : AggT P t] [he : ElemT P t sz bytes zc]
    (hr : fn.results = #[.cell a t]) (ha : find e a = some (.pointer p)) (hc : Cells w p vs) (hl : vs.length = sz) (h : R (.agg vs.toArray) w) : retQ P N fn R .ret e w :=
  ⟨_, fun ac hs => by
    obtain ⟨ad, rfl, hv⟩ := hc
    subst hl
    have := run_loadCells_list (P := P) w ad vs hv
    simp only [results, hr, List.mapM_toArray, List.mapM_cons, List.mapM_nil, Sem.run_bind, Sem.run_pure, Result.andThen_ok, (hs.val a _ ha).2, asAddr, loadVar, run_isAgg_t ht, run_sizeOf he, if_true, this]
    simp [loadVar, run_isAgg_t ht, run_sizeOf he, this, asAddr], h⟩

/-! ### Slices of one's own, and append -/

/-- the slice value v is the call's own, from block base on, and reads as xs; fi: what lies behind its elements -/
def Own {α : Type} (R : Rp α) (w : World) (base : Nat) (el : TypeId) (v : Value) (xs : List α) (fi : List Nat) : Prop :=
  ∃ cells, w.ownsRow base el R.sz v xs.length cells ∧ Rows R w xs cells fi

/-- what an append copies -/
def Src {α : Type} (R : Rp α) (w : World) (A : Option Addr) (ys : List α) (gi : List Nat) : Prop :=
  ∃ news, Rows R w ys news gi ∧ (news = [] ∧ ys = [] ∨ ∃ ad, A = some ad ∧ ∀ j u, news[j]? = some u → w.cell? (ad.add j) = some u)

section own
variable {α : Type} {R : Rp α} {w w' : World} {base : Nat} {el : TypeId} {v : Value} {xs ys : List α} {fi gi : List Nat}
theorem Own.lt (h : Own R w base el v xs fi) {b : Nat} (hb : v.ownBlock = some b) : base ≤ b ∧ b < w.heap.size := by
  obtain ⟨cells, h1, _⟩ := h
  exact h1.lt b hb
theorem Own.dom (h : Own R w base el v xs fi) : ∀ b, b ∈ fi → b < w.heap.size := by
  obtain ⟨cells, _, h2⟩ := h
  exact h2.dom
theorem Own.none_ (w : World) (base : Nat) (el : TypeId) : Own R w base el (.slice none 0 0) [] [] := ⟨[], World.ownsRow_nil _ _ _ _, rfl, rfl⟩
theorem Own.made {b : Nat} {cs : List Value} (h : Blk w b el cs) {c : Nat} (hc : cs.length = c * R.sz) (hm : c ≤ maxLen) (hb : base ≤ b) : Own R w base el (.slice (some ⟨b, 0, none⟩) 0 c) [] [] :=
  ⟨[], ⟨by simp, .inr ⟨b, c, cs.toArray, rfl, hb, h, Nat.zero_le _, hm, by simpa using hc, by simp⟩⟩, rfl, rfl⟩
theorem Own.full {b : Nat} {cs : List Value} (h : Blk w b el cs) (hr : Rows R w xs cs fi) (hm : xs.length ≤ maxLen) (hb : base ≤ b) : Own R w base el (.slice (some ⟨b, 0, none⟩) xs.length xs.length) xs fi :=
  ⟨cs, ⟨hr.len, .inr ⟨b, xs.length, cs.toArray, rfl, hb, h, Nat.le_refl _, hm, by simpa using hr.len, by simp [← hr.len]⟩⟩, hr⟩
theorem Own.keep (h : Own R w base el v xs fi) (k : Keep w w') : Own R w' base el v xs fi := by
  obtain ⟨cells, h1, h2⟩ := h
  refine ⟨cells, h1.kept (row := none) ⟨k.os, k.tape, k.output, k.size, fun b hb _ => k.block b hb⟩ ?_, h2.same fun b hb => k.block b (h2.dom b hb)⟩
  cases hv : v.ownBlock with
  | none => exact .inl rfl
  | some b => exact .inr (by simp)
/-- a write elsewhere -/
theorem Own.upd (h : Own R w base el v xs fi) {b : Nat} {t : TypeId} {cs : List Value} (k : Upd w w' b t cs) (hb : v.ownBlock ≠ some b) (hf : b ∉ fi) : Own R w' base el v xs fi := by
  obtain ⟨cells, h1, h2⟩ := h
  refine ⟨cells, h1.kept (row := some b) ⟨k.os, k.tape, k.output, by rw [k.size]; exact Nat.le_refl _, fun b' _ hne => k.other b' (fun e => hne (by rw [e]))⟩ ?_, h2.same fun b' hb' => k.other b' (fun e => hf (e ▸ hb'))⟩
  cases hv : v.ownBlock with
  | none => exact .inl rfl
  | some b' => exact .inr (by rw [← hv]; exact hb)
theorem Own.grown (h : Own R w base el v xs fi) {row : Option Nat} (k : w.grownBy w' row) (hb : ∀ b, row = some b → v.ownBlock ≠ some b ∧ b ∉ fi) : Own R w' base el v xs fi := by
  obtain ⟨cells, h1, h2⟩ := h
  refine ⟨cells, h1.kept k ?_, h2.same fun b' hb' => k.block b' (h2.dom b' hb') (fun e => (hb b' e.symm).2 hb')⟩
  cases hv : v.ownBlock with
  | none => exact .inl rfl
  | some b' =>
    refine .inr fun e => ?_
    exact (hb b' e.symm).1 hv
theorem Own.split (h : Own R w base el v xs fi) : ∃ A n c, v = .slice A n c ∧ n = xs.length ∧ n ≤ c := by
  obtain ⟨cells, ⟨_, h1⟩, _⟩ := h
  rcases h1 with ⟨rfl, h0⟩ | ⟨b, cap, cur, rfl, _, _, hle, _⟩
  · exact ⟨none, 0, 0, rfl, h0.symm, Nat.le_refl _⟩
  · exact ⟨some ⟨b, 0, none⟩, xs.length, cap, rfl, rfl, hle⟩
/-- an own slice, read -/
theorem Own.sl (h : Own R w base el v xs fi) (hsz : 0 < R.sz) : ∃ fp, Sl R w v xs fp ∧ (∀ b, b ∈ fp → v.ownBlock = some b ∨ b ∈ fi) ∧ fp = v.ownBlock.toList ++ fi := by
  obtain ⟨cells, ⟨hl, h1⟩, h2⟩ := h
  rcases h1 with ⟨rfl, h0⟩ | ⟨b, cap, cur, rfl, hbb, hg, hle, hm, hcs, htk⟩
  · have hx : xs = [] := List.eq_nil_of_length_eq_zero h0
    subst hx
    obtain ⟨rfl, rfl⟩ := h2
    exact ⟨[], ⟨none, 0, [], [], rfl, ⟨Nat.zero_le _, by omega⟩, ⟨rfl, rfl⟩, .inl ⟨rfl, rfl, rfl⟩⟩, by simp, by simp [Value.ownBlock]⟩
  · have hlt : b < w.heap.size := (Array.getElem?_eq_some_iff.1 hg).1
    refine ⟨b :: fi, ⟨some ⟨b, 0, none⟩, cap, cells, fi, rfl, ⟨hle, by simp only [maxLen] at hm; omega⟩, h2, .inr ⟨_, rfl, hlt, fun j u hu => ?_, rfl⟩⟩, fun b' hb' => ?_, by simp [Value.ownBlock]⟩
    · rw [add_mk, Nat.zero_add]
      rw [← htk, List.getElem?_take] at hu
      split at hu
      · simp [World.cell?, hg]; simpa using hu
      · cases hu
    · rcases List.mem_cons.1 hb' with rfl | hb'
      · exact .inl rfl
      · exact .inr hb'
theorem Sl.src {A : Option Addr} {n c : Nat} {fp : List Nat} (h : Sl R w (.slice A n c) xs fp) : ∃ gi, Src R w A xs gi ∧ (∀ b, b ∈ gi → b ∈ fp) := by
  obtain ⟨A', c', cells, fi, he, hlc, hr, h⟩ := h
  simp only [Value.slice.injEq] at he
  obtain ⟨rfl, rfl, rfl⟩ := he
  rcases h with ⟨rfl, rfl, rfl⟩ | ⟨ad, rfl, hlt, hc, rfl⟩
  · exact ⟨fp, ⟨[], hr, .inl ⟨rfl, rfl⟩⟩, fun b hb => hb⟩
  · exact ⟨fi, ⟨cells, hr, .inr ⟨ad, rfl, hc⟩⟩, fun b hb => List.mem_cons_of_mem _ hb⟩
theorem Blk.src {b : Nat} {t : TypeId} {cs : List Value} (h : Blk w b t cs) (hr : Rows R w xs cs fi) : Src R w (some ⟨b, 0, none⟩) xs fi :=
  ⟨cs, hr, .inr ⟨_, rfl, fun j u hu => by rw [add_mk, Nat.zero_add, h.cell?]; exact hu⟩⟩
theorem Blk.grown {b : Nat} {t : TypeId} {cs : List Value} (h : Blk w b t cs) {row : Option Nat} (k : w.grownBy w' row) (hne : some b ≠ row) : Blk w' b t cs := (k.block b h.lt hne).trans h
theorem Keep.grown {w0 : World} (h : Keep w0 w) {row : Option Nat} (k : w.grownBy w' row) (hr : ∀ b, row = some b → w0.heap.size ≤ b) : Keep w0 w' :=
  Below.grown h k h.size hr
end own

/-- the blocks fp are apart from each other, were made since the heap had B blocks, and may be written -/
def Fresh (B : Nat) (w : World) (fp : List Nat) : Prop := fp.Nodup ∧ ∀ b, b ∈ fp → B ≤ b ∧ ∃ t cs, Blk w b t cs
theorem Fresh.nd {B : Nat} {w : World} {fp : List Nat} (h : Fresh B w fp) : fp.Nodup := h.1
theorem Fresh.ge {B : Nat} {w : World} {fp : List Nat} (h : Fresh B w fp) {b : Nat} (hb : b ∈ fp) : B ≤ b := (h.2 b hb).1
theorem Fresh.keep {B : Nat} {w w' : World} {fp : List Nat} (h : Fresh B w fp) (k : Keep w w') : Fresh B w' fp :=
  ⟨h.1, fun b hb => ⟨(h.2 b hb).1, by obtain ⟨t, cs, hc⟩ := (h.2 b hb).2; exact ⟨t, cs, hc.keep k⟩⟩⟩
theorem Fresh.upd {B : Nat} {w w' : World} {fp : List Nat} {g : Nat} {t : TypeId} {cs : List Value} (h : Fresh B w fp) (k : Upd w w' g t cs) : Fresh B w' fp :=
  ⟨h.1, fun b hb => ⟨(h.2 b hb).1, by
    obtain ⟨t', cs', hc⟩ := (h.2 b hb).2
    by_cases he : b = g
    · subst he; exact ⟨t, cs, k.blk⟩
    · exact ⟨t', cs', hc.upd k he⟩⟩⟩
theorem Fresh.mono {B B' : Nat} {w : World} {fp : List Nat} (h : Fresh B w fp) (hB : B' ≤ B) : Fresh B' w fp :=
  ⟨h.1, fun b hb => ⟨by have := (h.2 b hb).1; omega, (h.2 b hb).2⟩⟩
theorem Fresh.nil (B : Nat) (w : World) : Fresh B w [] := ⟨List.nodup_nil, fun b hb => by cases hb⟩
theorem Fresh.one {B : Nat} {w : World} {b : Nat} {t : TypeId} {cs : List Value} (h : Blk w b t cs) (hb : B ≤ b) : Fresh B w [b] :=
  ⟨by simp, fun b' hb' => by
    have : b' = b := by simpa using hb'
    subst this
    exact ⟨hb, t, cs, h⟩⟩
/-- a block of numbers, as a slice -/
theorem Rows.ints (w : World) : ∀ (xs : List Int), Rows intR w xs (xs.map (Value.int .i64)) []
  | [] => ⟨rfl, rfl⟩
  | x :: r => ⟨[.int .i64 x], r.map (Value.int .i64), [], [], rfl, rfl, ⟨rfl, rfl⟩, Rows.ints w r⟩
theorem Sl.ofBlk {α : Type} {R : Rp α} {w : World} {b : Nat} {t : TypeId} {cs cells : List Value} {xs : List α} {fi : List Nat} (h : Blk w b t cs) (hr : Rows R w xs cells fi) (hc : ∀ (j : Nat) (u : Value), cells[j]? = some u → cs[j]? = some u) {c : Nat} (hlc : xs.length ≤ c) (hcm : c ≤ 9223372036854775807 := by omega) :
    Sl R w (.slice (some ⟨b, 0, none⟩) xs.length c) xs (b :: fi) :=
  ⟨_, c, cells, fi, rfl, ⟨hlc, hcm⟩, hr, .inr ⟨_, rfl, h.lt, fun j u hu => by rw [add_mk, Nat.zero_add, h.cell?]; exact hc j u hu, rfl⟩⟩
theorem Sl.ofInts {w : World} {b : Nat} {t : TypeId} {cs : List Value} {xs : List Int} (h : Blk w b t cs) (hc : ∀ i, i < xs.length → cs[i]? = some (.int .i64 (gi xs (i : Int)))) {n c : Nat} (hn : n = xs.length) (hlc : n ≤ c) (hcm : c ≤ 9223372036854775807 := by omega) :
    Sl intR w (.slice (some ⟨b, 0, none⟩) n c) xs [b] := by
  subst hn
  refine Sl.ofBlk h (Rows.ints w xs) (fun j u hu => ?_) hlc hcm
  have hj : j < xs.length := by simpa using (List.getElem?_eq_some_iff.1 hu).1
  rw [hc j hj, ← hu, List.getElem?_map, List.getElem?_eq_getElem hj, gi_lt hj]; rfl
theorem set_at {cs : List Value} {k : Nat} {v : Value} {f : Nat → Value} (hk : k < cs.length) (hall : ∀ i, i < k → cs[i]? = some (f i)) (hv : v = f k) : ∀ i, i < k + 1 → (cs.set k v)[i]? = some (f i) := by
  intro i hi
  rw [List.getElem?_set]
  by_cases he : k = i
  · subst he; simp [hk, hv]
  · rw [if_neg he]; exact hall i (by omega)

section append
variable {P : Program} {N : Nat} {ops : Array Oper} {Q : Post} {rest : List Oper} {e : Env} {w : World}
  {ty : TypeId} {pos : String} {af : Array Edge} {g : Option (Nat × Bool)} {x y : Operand} {t el : TypeId} {sz bytes : Nat} {zc : List Value} {d : Tmp}
theorem o_append {α : Type} {R : Rp α} [ht : SliceT P t el] [he : ElemT P el sz bytes zc] {base : Nat} {v : Value} {xs ys : List α} {fi gi : List Nat} {A : Option Addr} {m c : Nat}
    (hg : gd ops e g = some true) (hd : Nat.blt d N = true) (hx : ev e x = some v) (hy : ev e y = some (.slice A m c)) (hsz : R.sz = sz) (hsz0 : 0 < sz)
    (ho : Own R w base el v xs fi) (hs : Src R w A ys gi) (hm : m = ys.length) (hf : ∀ b, v.ownBlock = some b → b ∉ fi ∧ b ∉ gi)
    (h63 : xs.length + ys.length ≤ 4611686018427387904) (hbytes : (xs.length + ys.length) * bytes ≤ 140737488355328) (hbase : base ≤ w.heap.size)
    (kk : ∀ v' w', Own R w' base el v' (xs ++ ys) (fi ++ gi) → w.grownBy w' v.ownBlock → (v'.ownBlock = v.ownBlock ∨ v'.ownBlock = some w.heap.size) → WL P N ops Q rest ((d, v') :: e) w') :
    WL P N ops Q (⟨some d, .call ⟨.builtin .append, #[x, y], #[t, t]⟩, ty, pos, af, g⟩ :: rest) e w := by
  have hzl : zc.length = sz := he.l
  subst hsz
  obtain ⟨i, zv, hi, h1, h2, h3, h4⟩ := he.get
  obtain ⟨cells, hown, hrows⟩ := ho
  obtain ⟨news, hrn, hsrc⟩ := hs
  have hlen := hrn.len
  have main : ∃ v' w', (Builtin.append_ #[t, t] ty #[v, .slice A m c]).run P w = .ok v' w' ∧ w'.ownsRow base el R.sz v' (xs.length + ys.length) (cells ++ news) ∧ w.grownBy w' v.ownBlock ∧ (v'.ownBlock = v.ownBlock ∨ v'.ownBlock = some w.heap.size) := by
    rcases hsrc with ⟨rfl, rfl⟩ | ⟨ad, rfl, hc⟩
    · cases A with
      | none =>
        refine ⟨v, w, ?_, by simpa using hown, World.grownBy.refl w _, .inl rfl⟩
        have hm0 : m = 0 := by simpa using hm
        subst hm0
        rcases hown.2 with ⟨rfl, h0⟩ | ⟨b, cap, cur, rfl, _, _, hnc, _⟩
        · simp [Builtin.append_, run_underlying ht.u, sizeOf, typeInfo, hi, Builtin.lenOf, Builtin.firstCells]
        · simp [Builtin.append_, run_underlying ht.u, sizeOf, typeInfo, hi, Builtin.lenOf, Builtin.firstCells, hnc, storeCells]
      | some ad =>
        obtain ⟨v', w', hr, h2', h3', _, h5⟩ := run_append_own_at (P := P) w base t ty el i zv R.sz bytes ht.u hi h3 h1 h2 (by rw [h4]; simpa using hzl) hsz0 v xs.length cells hown ad m c [] (by simp [hm]) (by simp) (by simp) (by rw [hm]; simp only [maxLen]; simp at h63 ⊢; omega) (by rw [hm]; exact hbytes) hbase
        exact ⟨v', w', hr, by rw [hm] at h2'; exact h2', h3', h5⟩
    · obtain ⟨v', w', hr, h2', h3', _, h5⟩ := run_append_own_at (P := P) w base t ty el i zv R.sz bytes ht.u hi h3 h1 h2 (by rw [h4]; simpa using hzl) hsz0 v xs.length cells hown ad m c news (by rw [hm]; exact hlen) hc (hrn.one) (by rw [hm]; simp only [maxLen]; omega) (by rw [hm]; exact hbytes) hbase
      exact ⟨v', w', hr, by rw [hm] at h2'; exact h2', h3', h5⟩
  obtain ⟨v', w', hr, h2', h3', h5⟩ := main
  refine WL_val (o := ⟨some d, .call ⟨.builtin .append, #[x, y], #[t, t]⟩, ty, pos, af, g⟩) (w' := w') (v := v') hg hd (fun a ha => ?_) (kk v' w' ⟨cells ++ news, by rw [List.length_append]; exact h2', ?_⟩ h3' h5)
  · simp [execOp, resolve, invoke, builtin, ha.ev hx, ha.ev hy, hr]
  · refine (hrows.same fun b hb => h3'.block b (hrows.dom b hb) fun e => (hf b e.symm).1 hb).append (hrn.same fun b hb => h3'.block b (hrn.dom b hb) fun e => (hf b e.symm).2 hb)
theorem Fresh.append {B : Nat} {w : World} {fi gi : List Nat} (h1 : Fresh B w fi) (h2 : Fresh B w gi) (hd : ∀ b, b ∈ fi → b ∉ gi) : Fresh B w (fi ++ gi) :=
  ⟨List.nodup_append.2 ⟨h1.1, h2.1, fun a ha b hb e => hd a ha (e ▸ hb)⟩, fun b hb => by
    rcases List.mem_append.1 hb with hb | hb
    · exact h1.2 b hb
    · exact h2.2 b hb⟩
theorem Fresh.dom {B : Nat} {w : World} {fi : List Nat} (h : Fresh B w fi) : ∀ b, b ∈ fi → b < w.heap.size := fun b hb => by
  obtain ⟨t, cs, hc⟩ := (h.2 b hb).2; exact hc.lt

/-- a slice of the call's own, and all that lies behind it: blocks of the call's own, apart from each other -/
structure OwnF {α : Type} (R : Rp α) (w : World) (base : Nat) (el : TypeId) (v : Value) (xs : List α) (fi : List Nat) : Prop where
  own : Own R w base el v xs fi
  fresh : Fresh base w fi
  out : ∀ b, v.ownBlock = some b → b ∉ fi
section ownF
variable {α : Type} {R : Rp α} {w w' : World} {base : Nat} {el : TypeId} {v : Value} {xs ys : List α} {fi gi : List Nat}
theorem OwnF.none_ (w : World) (base : Nat) (el : TypeId) : OwnF R w base el (.slice none 0 0) [] [] := ⟨Own.none_ w base el, Fresh.nil _ _, fun b hb => by simp [Value.ownBlock] at hb⟩
theorem OwnF.made {b : Nat} (h : Blk w b el []) (hb : base ≤ b) : OwnF R w base el (.slice (some ⟨b, 0, none⟩) 0 0) [] [] :=
  ⟨Own.made h (by simp) (Nat.zero_le _) hb, Fresh.nil _ _, fun b hb => by simp⟩
theorem OwnF.keep (h : OwnF R w base el v xs fi) (k : Keep w w') : OwnF R w' base el v xs fi := ⟨h.own.keep k, h.fresh.keep k, h.out⟩
theorem OwnF.upd (h : OwnF R w base el v xs fi) {b : Nat} {t : TypeId} {cs : List Value} (k : Upd w w' b t cs) (hb : v.ownBlock ≠ some b) (hf : b ∉ fi) : OwnF R w' base el v xs fi := ⟨h.own.upd k hb hf, h.fresh.upd k, h.out⟩
theorem OwnF.split (h : OwnF R w base el v xs fi) : ∃ A n c, v = .slice A n c ∧ n = xs.length ∧ n ≤ c := h.own.split
theorem OwnF.lt (h : OwnF R w base el v xs fi) {b : Nat} (hb : v.ownBlock = some b) : base ≤ b ∧ b < w.heap.size := h.own.lt hb
theorem OwnF.sl (h : OwnF R w base el v xs fi) (hsz : 0 < R.sz) : ∃ fp, Sl R w v xs fp ∧ Fresh base w fp := by
  obtain ⟨fp, h1, h2, h3⟩ := h.own.sl hsz
  refine ⟨fp, h1, ?_⟩
  subst h3
  obtain ⟨cells, ⟨_, hr⟩, _⟩ := h.own
  rcases hr with ⟨rfl, _⟩ | ⟨b, cap, cur, rfl, hb, hg, _⟩
  · exact h.fresh
  · refine (Fresh.one (t := el) (cs := cur.toList) (b := b) (by simpa [Blk] using hg) hb).append h.fresh fun b' hb' => ?_
    have : b' = b := by simpa using hb'
    subst this
    exact h.out _ rfl
theorem OwnF.grown (h : OwnF R w base el v xs fi) {row : Option Nat} (k : w.grownBy w' row) (hb : ∀ b, row = some b → v.ownBlock ≠ some b ∧ b ∉ fi) : OwnF R w' base el v xs fi :=
  ⟨h.own.grown k hb, ⟨h.fresh.1, fun b hbm => ⟨(h.fresh.2 b hbm).1, by
    obtain ⟨t, cs, hc⟩ := (h.fresh.2 b hbm).2
    exact ⟨t, cs, (k.block b hc.lt fun e => (hb b e.symm).2 hbm).trans hc⟩⟩⟩, h.out⟩
theorem grown_below {row : Option Nat} (k : w.grownBy w' row) {B : Nat} (hB : B ≤ w.heap.size) (hr : ∀ b, row = some b → B ≤ b) : Below B w w' :=
  (Below.refl _ _).grown k hB hr
theorem Keep.below {w0 : World} (h : Keep w0 w) {B : Nat} (k : Below B w w') (hB : w0.heap.size ≤ B) : Keep w0 w' := Below.trans h (Below.mono k hB)
end ownF
theorem o_appendF {α : Type} {R : Rp α} [ht : SliceT P t el] [he : ElemT P el sz bytes zc] {base M : Nat} {v : Value} {xs ys : List α} {fi gi : List Nat} {A : Option Addr} {m c : Nat}
    (hg : gd ops e g = some true) (hd : Nat.blt d N = true) (hx : ev e x = some v) (hy : ev e y = some (.slice A m c)) (hsz : R.sz = sz) (hsz0 : 0 < sz)
    (ho : OwnF R w base el v xs fi) (hs : Src R w A ys gi) (hm : m = ys.length) (hfg : Fresh base w gi)
    (hM1 : ∀ b, b ∈ fi → b < M) (hM2 : ∀ b, v.ownBlock = some b → b < M) (hM3 : ∀ b, b ∈ gi → M ≤ b)
    (h63 : xs.length + ys.length ≤ 4611686018427387904) (hbytes : (xs.length + ys.length) * bytes ≤ 140737488355328) (hbase : base ≤ w.heap.size)
    (kk : ∀ v' w', OwnF R w' base el v' (xs ++ ys) (fi ++ gi) → Below base w w' → w.grownBy w' v.ownBlock → WL P N ops Q rest ((d, v') :: e) w') :
    WL P N ops Q (⟨some d, .call ⟨.builtin .append, #[x, y], #[t, t]⟩, ty, pos, af, g⟩ :: rest) e w := by
  refine o_append hg hd hx hy hsz hsz0 ho.own hs hm (fun b hb => ⟨ho.out b hb, fun hm' => ?_⟩) h63 hbytes hbase fun v' w' h1 h2 h3 => kk v' w' ⟨h1, ?_, fun b hb hm' => ?_⟩ (grown_below h2 hbase fun b hb => (ho.lt hb).1) h2
  · have := hM2 b hb; have := hM3 b hm'; omega
  · have hfa : Fresh base w (fi ++ gi) := ho.fresh.append hfg fun b hb hm' => by have := hM1 b hb; have := hM3 b hm'; omega
    refine ⟨hfa.1, fun b hb => ⟨(hfa.2 b hb).1, ?_⟩⟩
    obtain ⟨t, cs, hc⟩ := (hfa.2 b hb).2
    refine ⟨t, cs, (h2.block b hc.lt fun e => ?_).trans hc⟩
    rcases List.mem_append.1 hb with hb' | hb'
    · exact ho.out b e.symm hb'
    · have := hM2 b e.symm; have := hM3 b hb'; omega
  · rcases h3 with h3 | h3
    · rw [h3] at hb
      rcases List.mem_append.1 hm' with hb' | hb'
      · exact ho.out b hb hb'
      · have := hM2 b hb; have := hM3 b hb'; omega
    · rw [h3] at hb
      simp only [Option.some.injEq] at hb
      rcases List.mem_append.1 hm' with hb' | hb'
      · have := ho.fresh.dom b hb'; omega
      · have := hfg.dom b hb'; omega
end append
end Go.E
set_option linter.unusedVariables false
set_option linter.unusedSimpArgs false
namespace Go.E
open Go Go.RowKit
/-- what an operation yields that looks at the frame alone -/
def evOp (e : Env) : Op → Option Value
  | .move x => ev e x
  | .assign x => ev e x
  | .unOp .not _ x => match ev e x with
    | some (.bool b) => some (.bool (!b))
    | _ => none
  | .binOp o _ x y _ => match ev e x with
    | some (.int .i64 a) => match ev e y with
      | some (.int .i64 b) => match o with
        | .lss => some (.bool (decide (a < b)))
        | .leq => some (.bool (decide (a ≤ b)))
        | .gtr => some (.bool (decide (b < a)))
        | .geq => some (.bool (decide (b ≤ a)))
        | .eql => some (.bool (decide (a = b)))
        | .neq => some (.bool (decide (a ≠ b)))
        | _ => none
      | _ => none
    | _ => none
  | .pick z x y => match ev e z with
    | some (.bool true) => ev e x
    | some (.bool false) => ev e y
    | _ => none
  | .extract x ix => match ev e x with
    | some (.tuple vs) => vs.toList[ix]?
    | _ => none
  | _ => none
theorem evOp_pure {P : Program} {N : Nat} {e : Env} {w : World} {dst : Option Tmp} {ty : TypeId} {pos : String} {af : Array Edge} {g : Option (Nat × Bool)} {op : Op} {v : Value} (h : evOp e op = some v) : PureOp P N e w ⟨dst, op, ty, pos, af, g⟩ v := by
  cases op with
  | move x => exact o_move h
  | assign x => exact o_assign h
  | unOp o t x =>
    cases o with
    | not =>
      simp only [evOp] at h
      split at h
      · rename_i b hx
        simp only [Option.some.injEq] at h
        subst h; exact o_not hx
      · cases h
    | _ => simp [evOp] at h
  | binOp o t x y t' =>
    simp only [evOp] at h
    split at h
    · rename_i a hx
      split at h
      · rename_i b hy
        cases o <;> simp only [Option.some.injEq, reduceCtorEq] at h <;> subst h
        · exact o_eql hx hy
        · exact o_neq hx hy
        · exact o_lss hx hy
        · exact o_leq hx hy
        · exact o_gtr hx hy
        · exact o_geq hx hy
      · cases h
    · cases h
  | pick z x y =>
    simp only [evOp] at h
    split at h
    · rename_i hz; exact o_pick_t hz h
    · rename_i hz; exact o_pick_f hz h
    · cases h
  | extract x ix =>
    simp only [evOp] at h
    split at h
    · rename_i vs hx
      have hx' : ev e x = some (.tuple vs.toList.toArray) := by rw [hx]
      exact o_extract hx' h
    · cases h
  | _ => simp [evOp] at h
section
variable {P : Program} {N : Nat} {ops : Array Oper} {Q : Post} {rest : List Oper} {e : Env} {w w1 : World} {C S : World → Prop} {K : Env → Prop} {lasts : List Nat} {fuel : Nat} {listed : Array Bool}
  {ty t t' el ft tt : TypeId} {pos : String} {af : Array Edge} {g : Option (Nat × Bool)} {d : Tmp} {op : Op} {x y z : Operand} {v : Value} {a b i : Int} {k : IntKind} {A : Option Addr} {p : Option Addr} {n c sz bytes off f bk : Nat} {zc vs us cs : List Value} {q1 q2 q3 agg : Bool}
theorem s_o  (kk : WL P N ops Q rest ((d, v) :: e) w) (hv : evOp e op = some v := by exact rfl) (hg : gd ops e g = some true := by exact rfl) (hd : Nat.blt d N = true := by exact rfl) : WL P N ops Q (⟨some d, op, ty, pos, af, g⟩ :: rest) e w := WL_pure hg hd (evOp_pure hv) kk
theorem q_o  (kk : WQ P N ops C K rest ((d, v) :: e)) (hv : evOp e op = some v := by exact rfl) (hg : gd ops e g = some true := by exact rfl) (hd : Nat.blt d N = true := by exact rfl) : WQ P N ops C K (⟨some d, op, ty, pos, af, g⟩ :: rest) e := WQ_pure hg hd (fun _ _ => evOp_pure hv) kk
theorem d_o  (ix : Nat) (kk : WD P N ops S Q fuel (listed.setIfInBounds ix true) ((d, v) :: e) w) (hi' : ops[ix]? = some ⟨some d, op, ty, pos, af, g⟩ := by exact rfl) (hv : evOp e op = some v := by exact rfl) (hg : gd ops e g = some true := by exact rfl) (hd : Nat.blt d N = true := by exact rfl) (hs' : Region.noSelect ops = true := by kernel_rfl) (hf' : Region.free .any ops listed ix = true := by kernel_rfl) (hr' : (Region.ready .any ops listed).contains ix = true := by kernel_rfl) (hQ : NoPanics Q := by repeat (first|exact np_ret|refine np_then ?_|refine np_in ?_)) (hS : S w := by assumption) : WD P N ops S Q (fuel + 1) listed e w := WD_take ix hi' hs' hf' hr' hQ hg hd (fun _ _ => evOp_pure hv) hS kk
theorem e_o  (ix : Nat) (kk : WE P N ops S lasts Q fuel (listed.setIfInBounds ix true) ((d, v) :: e) w) (hi' : ops[ix]? = some ⟨some d, op, ty, pos, af, g⟩ := by exact rfl) (hv : evOp e op = some v := by exact rfl) (hg : gd ops e g = some true := by exact rfl) (hd : Nat.blt d N = true := by exact rfl) (hs' : Region.noSelect ops = true := by kernel_rfl) (hf' : Region.free .any ops listed ix = true := by kernel_rfl) (hr' : (Region.ready .any ops listed).contains ix = true := by kernel_rfl) (hil : lasts.contains ix = false := by kernel_rfl) (hQ : NoPanics Q := by repeat (first|exact np_ret|refine np_then ?_|refine np_in ?_)) : WE P N ops S lasts Q (fuel + 1) listed e w := WE_takeP ix hi' hs' hf' hr' hil hQ hg hd (fun _ => evOp_pure hv) kk
theorem s_a  (kk : WL P N ops Q rest ((d, (.int .i64 (a + b))) :: e) w) (hx : ev e x = some (.int .i64 a) := by exact rfl) (hy : ev e y = some (.int .i64 b) := by exact rfl) (hr : -9223372036854775808 ≤ a + b ∧ a + b ≤ 9223372036854775807 := by omega) (hg : gd ops e g = some true := by exact rfl) (hd : Nat.blt d N = true := by exact rfl) : WL P N ops Q (⟨some d, .binOp .add t x y t', ty, pos, af, g⟩ :: rest) e w := WL_pure hg hd (o_add hx hy hr) kk
theorem q_a  (kk : WQ P N ops C K rest ((d, (.int .i64 (a + b))) :: e)) (hx : ev e x = some (.int .i64 a) := by exact rfl) (hy : ev e y = some (.int .i64 b) := by exact rfl) (hr : -9223372036854775808 ≤ a + b ∧ a + b ≤ 9223372036854775807 := by omega) (hg : gd ops e g = some true := by exact rfl) (hd : Nat.blt d N = true := by exact rfl) : WQ P N ops C K (⟨some d, .binOp .add t x y t', ty, pos, af, g⟩ :: rest) e := WQ_pure hg hd (fun _ _ => o_add hx hy hr) kk
theorem d_a  (ix : Nat) (kk : WD P N ops S Q fuel (listed.setIfInBounds ix true) ((d, (.int .i64 (a + b))) :: e) w) (hi' : ops[ix]? = some ⟨some d, .binOp .add t x y t', ty, pos, af, g⟩ := by exact rfl) (hx : ev e x = some (.int .i64 a) := by exact rfl) (hy : ev e y = some (.int .i64 b) := by exact rfl) (hr : -9223372036854775808 ≤ a + b ∧ a + b ≤ 9223372036854775807 := by omega) (hg : gd ops e g = some true := by exact rfl) (hd : Nat.blt d N = true := by exact rfl) (hs' : Region.noSelect ops = true := by kernel_rfl) (hf' : Region.free .any ops listed ix = true := by kernel_rfl) (hr' : (Region.ready .any ops listed).contains ix = true := by kernel_rfl) (hQ : NoPanics Q := by repeat (first|exact np_ret|refine np_then ?_|refine np_in ?_)) (hS : S w := by assumption) : WD P N ops S Q (fuel + 1) listed e w := WD_take ix hi' hs' hf' hr' hQ hg hd (fun _ _ => o_add hx hy hr) hS kk
theorem e_a  (ix : Nat) (kk : WE P N ops S lasts Q fuel (listed.setIfInBounds ix true) ((d, (.int .i64 (a + b))) :: e) w) (hi' : ops[ix]? = some ⟨some d, .binOp .add t x y t', ty, pos, af, g⟩ := by exact rfl) (hx : ev e x = some (.int .i64 a) := by exact rfl) (hy : ev e y = some (.int .i64 b) := by exact rfl) (hr : -9223372036854775808 ≤ a + b ∧ a + b ≤ 9223372036854775807 := by omega) (hg : gd ops e g = some true := by exact rfl) (hd : Nat.blt d N = true := by exact rfl) (hs' : Region.noSelect ops = true := by kernel_rfl) (hf' : Region.free .any ops listed ix = true := by kernel_rfl) (hr' : (Region.ready .any ops listed).contains ix = true := by kernel_rfl) (hil : lasts.contains ix = false := by kernel_rfl) (hQ : NoPanics Q := by repeat (first|exact np_ret|refine np_then ?_|refine np_in ?_)) : WE P N ops S lasts Q (fuel + 1) listed e w := WE_takeP ix hi' hs' hf' hr' hil hQ hg hd (fun _ => o_add hx hy hr) kk
theorem s_s  (kk : WL P N ops Q rest ((d, (.int .i64 (a - b))) :: e) w) (hx : ev e x = some (.int .i64 a) := by exact rfl) (hy : ev e y = some (.int .i64 b) := by exact rfl) (hr : -9223372036854775808 ≤ a - b ∧ a - b ≤ 9223372036854775807 := by omega) (hg : gd ops e g = some true := by exact rfl) (hd : Nat.blt d N = true := by exact rfl) : WL P N ops Q (⟨some d, .binOp .sub t x y t', ty, pos, af, g⟩ :: rest) e w := WL_pure hg hd (o_sub hx hy hr) kk
theorem q_s  (kk : WQ P N ops C K rest ((d, (.int .i64 (a - b))) :: e)) (hx : ev e x = some (.int .i64 a) := by exact rfl) (hy : ev e y = some (.int .i64 b) := by exact rfl) (hr : -9223372036854775808 ≤ a - b ∧ a - b ≤ 9223372036854775807 := by omega) (hg : gd ops e g = some true := by exact rfl) (hd : Nat.blt d N = true := by exact rfl) : WQ P N ops C K (⟨some d, .binOp .sub t x y t', ty, pos, af, g⟩ :: rest) e := WQ_pure hg hd (fun _ _ => o_sub hx hy hr) kk
theorem d_s  (ix : Nat) (kk : WD P N ops S Q fuel (listed.setIfInBounds ix true) ((d, (.int .i64 (a - b))) :: e) w) (hi' : ops[ix]? = some ⟨some d, .binOp .sub t x y t', ty, pos, af, g⟩ := by exact rfl) (hx : ev e x = some (.int .i64 a) := by exact rfl) (hy : ev e y = some (.int .i64 b) := by exact rfl) (hr : -9223372036854775808 ≤ a - b ∧ a - b ≤ 9223372036854775807 := by omega) (hg : gd ops e g = some true := by exact rfl) (hd : Nat.blt d N = true := by exact rfl) (hs' : Region.noSelect ops = true := by kernel_rfl) (hf' : Region.free .any ops listed ix = true := by kernel_rfl) (hr' : (Region.ready .any ops listed).contains ix = true := by kernel_rfl) (hQ : NoPanics Q := by repeat (first|exact np_ret|refine np_then ?_|refine np_in ?_)) (hS : S w := by assumption) : WD P N ops S Q (fuel + 1) listed e w := WD_take ix hi' hs' hf' hr' hQ hg hd (fun _ _ => o_sub hx hy hr) hS kk
theorem e_s  (ix : Nat) (kk : WE P N ops S lasts Q fuel (listed.setIfInBounds ix true) ((d, (.int .i64 (a - b))) :: e) w) (hi' : ops[ix]? = some ⟨some d, .binOp .sub t x y t', ty, pos, af, g⟩ := by exact rfl) (hx : ev e x = some (.int .i64 a) := by exact rfl) (hy : ev e y = some (.int .i64 b) := by exact rfl) (hr : -9223372036854775808 ≤ a - b ∧ a - b ≤ 9223372036854775807 := by omega) (hg : gd ops e g = some true := by exact rfl) (hd : Nat.blt d N = true := by exact rfl) (hs' : Region.noSelect ops = true := by kernel_rfl) (hf' : Region.free .any ops listed ix = true := by kernel_rfl) (hr' : (Region.ready .any ops listed).contains ix = true := by kernel_rfl) (hil : lasts.contains ix = false := by kernel_rfl) (hQ : NoPanics Q := by repeat (first|exact np_ret|refine np_then ?_|refine np_in ?_)) : WE P N ops S lasts Q (fuel + 1) listed e w := WE_takeP ix hi' hs' hf' hr' hil hQ hg hd (fun _ => o_sub hx hy hr) kk
theorem s_n [SliceT P t el] (kk : WL P N ops Q rest ((d, (.int .i64 n)) :: e) w) (hx : ev e x = some (.slice A n c) := by exact rfl) (hg : gd ops e g = some true := by exact rfl) (hd : Nat.blt d N = true := by exact rfl) : WL P N ops Q (⟨some d, .call ⟨.builtin .len, #[x], #[t]⟩, ty, pos, af, g⟩ :: rest) e w := WL_pure hg hd (o_len hx) kk
theorem q_n [SliceT P t el] (kk : WQ P N ops C K rest ((d, (.int .i64 n)) :: e)) (hx : ev e x = some (.slice A n c) := by exact rfl) (hg : gd ops e g = some true := by exact rfl) (hd : Nat.blt d N = true := by exact rfl) : WQ P N ops C K (⟨some d, .call ⟨.builtin .len, #[x], #[t]⟩, ty, pos, af, g⟩ :: rest) e := WQ_pure hg hd (fun _ _ => o_len hx) kk
theorem d_n (ix : Nat) (kk : WD P N ops S Q fuel (listed.setIfInBounds ix true) ((d, (.int .i64 n)) :: e) w) (hi' : ops[ix]? = some ⟨some d, .call ⟨.builtin .len, #[x], #[t]⟩, ty, pos, af, g⟩ := by exact rfl) (i0 : SliceT P t el := by exact inferInstance) (hx : ev e x = some (.slice A n c) := by exact rfl) (hg : gd ops e g = some true := by exact rfl) (hd : Nat.blt d N = true := by exact rfl) (hs' : Region.noSelect ops = true := by kernel_rfl) (hf' : Region.free .any ops listed ix = true := by kernel_rfl) (hr' : (Region.ready .any ops listed).contains ix = true := by kernel_rfl) (hQ : NoPanics Q := by repeat (first|exact np_ret|refine np_then ?_|refine np_in ?_)) (hS : S w := by assumption) : WD P N ops S Q (fuel + 1) listed e w := WD_take ix hi' hs' hf' hr' hQ hg hd (fun _ _ => o_len hx) hS kk
theorem e_n (ix : Nat) (kk : WE P N ops S lasts Q fuel (listed.setIfInBounds ix true) ((d, (.int .i64 n)) :: e) w) (hi' : ops[ix]? = some ⟨some d, .call ⟨.builtin .len, #[x], #[t]⟩, ty, pos, af, g⟩ := by exact rfl) (i0 : SliceT P t el := by exact inferInstance) (hx : ev e x = some (.slice A n c) := by exact rfl) (hg : gd ops e g = some true := by exact rfl) (hd : Nat.blt d N = true := by exact rfl) (hs' : Region.noSelect ops = true := by kernel_rfl) (hf' : Region.free .any ops listed ix = true := by kernel_rfl) (hr' : (Region.ready .any ops listed).contains ix = true := by kernel_rfl) (hil : lasts.contains ix = false := by kernel_rfl) (hQ : NoPanics Q := by repeat (first|exact np_ret|refine np_then ?_|refine np_in ?_)) : WE P N ops S lasts Q (fuel + 1) listed e w := WE_takeP ix hi' hs' hf' hr' hil hQ hg hd (fun _ => o_len hx) kk
theorem s_i [SliceT P t el] [ElemT P el sz bytes zc] (kk : WL P N ops Q rest ((d, (.pointer (ea A sz i))) :: e) w) (hx : ev e x = some (.slice A n c) := by exact rfl) (hy : ev e y = some (.int k i) := by exact rfl) (hA : A.isSome = true := by first|assumption|rfl) (h0 : 0 ≤ i := by omega) (hn : i < n := by omega) (hg : gd ops e g = some true := by exact rfl) (hd : Nat.blt d N = true := by exact rfl) : WL P N ops Q (⟨some d, .indexAddr t x y, ty, pos, af, g⟩ :: rest) e w := WL_pure hg hd (o_indexAddr hx hy hA h0 hn) kk
theorem q_i [SliceT P t el] [ElemT P el sz bytes zc] (kk : WQ P N ops C K rest ((d, (.pointer (ea A sz i))) :: e)) (hx : ev e x = some (.slice A n c) := by exact rfl) (hy : ev e y = some (.int k i) := by exact rfl) (hA : A.isSome = true := by first|assumption|rfl) (h0 : 0 ≤ i := by omega) (hn : i < n := by omega) (hg : gd ops e g = some true := by exact rfl) (hd : Nat.blt d N = true := by exact rfl) : WQ P N ops C K (⟨some d, .indexAddr t x y, ty, pos, af, g⟩ :: rest) e := WQ_pure hg hd (fun _ _ => o_indexAddr hx hy hA h0 hn) kk
theorem d_i (ix : Nat) (kk : WD P N ops S Q fuel (listed.setIfInBounds ix true) ((d, (.pointer (ea A sz i))) :: e) w) (hi' : ops[ix]? = some ⟨some d, .indexAddr t x y, ty, pos, af, g⟩ := by exact rfl) (i0 : SliceT P t el := by exact inferInstance) (i1 : ElemT P el sz bytes zc := by exact inferInstance) (hx : ev e x = some (.slice A n c) := by exact rfl) (hy : ev e y = some (.int k i) := by exact rfl) (hA : A.isSome = true := by first|assumption|rfl) (h0 : 0 ≤ i := by omega) (hn : i < n := by omega) (hg : gd ops e g = some true := by exact rfl) (hd : Nat.blt d N = true := by exact rfl) (hs' : Region.noSelect ops = true := by kernel_rfl) (hf' : Region.free .any ops listed ix = true := by kernel_rfl) (hr' : (Region.ready .any ops listed).contains ix = true := by kernel_rfl) (hQ : NoPanics Q := by repeat (first|exact np_ret|refine np_then ?_|refine np_in ?_)) (hS : S w := by assumption) : WD P N ops S Q (fuel + 1) listed e w := WD_take ix hi' hs' hf' hr' hQ hg hd (fun _ _ => o_indexAddr hx hy hA h0 hn) hS kk
theorem e_i (ix : Nat) (kk : WE P N ops S lasts Q fuel (listed.setIfInBounds ix true) ((d, (.pointer (ea A sz i))) :: e) w) (hi' : ops[ix]? = some ⟨some d, .indexAddr t x y, ty, pos, af, g⟩ := by exact rfl) (i0 : SliceT P t el := by exact inferInstance) (i1 : ElemT P el sz bytes zc := by exact inferInstance) (hx : ev e x = some (.slice A n c) := by exact rfl) (hy : ev e y = some (.int k i) := by exact rfl) (hA : A.isSome = true := by first|assumption|rfl) (h0 : 0 ≤ i := by omega) (hn : i < n := by omega) (hg : gd ops e g = some true := by exact rfl) (hd : Nat.blt d N = true := by exact rfl) (hs' : Region.noSelect ops = true := by kernel_rfl) (hf' : Region.free .any ops listed ix = true := by kernel_rfl) (hr' : (Region.ready .any ops listed).contains ix = true := by kernel_rfl) (hil : lasts.contains ix = false := by kernel_rfl) (hQ : NoPanics Q := by repeat (first|exact np_ret|refine np_then ?_|refine np_in ?_)) : WE P N ops S lasts Q (fuel + 1) listed e w := WE_takeP ix hi' hs' hf' hr' hil hQ hg hd (fun _ => o_indexAddr hx hy hA h0 hn) kk
theorem s_f [FieldT P t f ft off sz agg] (kk : WL P N ops Q rest ((d, (.pointer (fa p off))) :: e) w) (hx : ev e x = some (.pointer p) := by exact rfl) (hp : p.isSome = true := by first|rfl|exact ea_some ‹_›|exact fa_some (ea_some ‹_›)) (hg : gd ops e g = some true := by exact rfl) (hd : Nat.blt d N = true := by exact rfl) : WL P N ops Q (⟨some d, .fieldAddr t x f, ty, pos, af, g⟩ :: rest) e w := WL_pure hg hd (o_fieldAddr hx hp) kk
theorem q_f [FieldT P t f ft off sz agg] (kk : WQ P N ops C K rest ((d, (.pointer (fa p off))) :: e)) (hx : ev e x = some (.pointer p) := by exact rfl) (hp : p.isSome = true := by first|rfl|exact ea_some ‹_›|exact fa_some (ea_some ‹_›)) (hg : gd ops e g = some true := by exact rfl) (hd : Nat.blt d N = true := by exact rfl) : WQ P N ops C K (⟨some d, .fieldAddr t x f, ty, pos, af, g⟩ :: rest) e := WQ_pure hg hd (fun _ _ => o_fieldAddr hx hp) kk
theorem d_f (ix : Nat) (kk : WD P N ops S Q fuel (listed.setIfInBounds ix true) ((d, (.pointer (fa p off))) :: e) w) (hi' : ops[ix]? = some ⟨some d, .fieldAddr t x f, ty, pos, af, g⟩ := by exact rfl) (i0 : FieldT P t f ft off sz agg := by exact inferInstance) (hx : ev e x = some (.pointer p) := by exact rfl) (hp : p.isSome = true := by first|rfl|exact ea_some ‹_›|exact fa_some (ea_some ‹_›)) (hg : gd ops e g = some true := by exact rfl) (hd : Nat.blt d N = true := by exact rfl) (hs' : Region.noSelect ops = true := by kernel_rfl) (hf' : Region.free .any ops listed ix = true := by kernel_rfl) (hr' : (Region.ready .any ops listed).contains ix = true := by kernel_rfl) (hQ : NoPanics Q := by repeat (first|exact np_ret|refine np_then ?_|refine np_in ?_)) (hS : S w := by assumption) : WD P N ops S Q (fuel + 1) listed e w := WD_take ix hi' hs' hf' hr' hQ hg hd (fun _ _ => o_fieldAddr hx hp) hS kk
theorem e_f (ix : Nat) (kk : WE P N ops S lasts Q fuel (listed.setIfInBounds ix true) ((d, (.pointer (fa p off))) :: e) w) (hi' : ops[ix]? = some ⟨some d, .fieldAddr t x f, ty, pos, af, g⟩ := by exact rfl) (i0 : FieldT P t f ft off sz agg := by exact inferInstance) (hx : ev e x = some (.pointer p) := by exact rfl) (hp : p.isSome = true := by first|rfl|exact ea_some ‹_›|exact fa_some (ea_some ‹_›)) (hg : gd ops e g = some true := by exact rfl) (hd : Nat.blt d N = true := by exact rfl) (hs' : Region.noSelect ops = true := by kernel_rfl) (hf' : Region.free .any ops listed ix = true := by kernel_rfl) (hr' : (Region.ready .any ops listed).contains ix = true := by kernel_rfl) (hil : lasts.contains ix = false := by kernel_rfl) (hQ : NoPanics Q := by repeat (first|exact np_ret|refine np_then ?_|refine np_in ?_)) : WE P N ops S lasts Q (fuel + 1) listed e w := WE_takeP ix hi' hs' hf' hr' hil hQ hg hd (fun _ => o_fieldAddr hx hp) kk
theorem s_b  (kk : WL P N ops Q rest ((d, (.bool (bif q1 then q2 else q3))) :: e) w) (hz : ev e z = some (.bool q1) := by exact rfl) (hx : ev e x = some (.bool q2) := by exact rfl) (hy : ev e y = some (.bool q3) := by exact rfl) (hg : gd ops e g = some true := by exact rfl) (hd : Nat.blt d N = true := by exact rfl) : WL P N ops Q (⟨some d, .pick z x y, ty, pos, af, g⟩ :: rest) e w := WL_pure hg hd (o_pick_b hz hx hy) kk
theorem q_b  (kk : WQ P N ops C K rest ((d, (.bool (bif q1 then q2 else q3))) :: e)) (hz : ev e z = some (.bool q1) := by exact rfl) (hx : ev e x = some (.bool q2) := by exact rfl) (hy : ev e y = some (.bool q3) := by exact rfl) (hg : gd ops e g = some true := by exact rfl) (hd : Nat.blt d N = true := by exact rfl) : WQ P N ops C K (⟨some d, .pick z x y, ty, pos, af, g⟩ :: rest) e := WQ_pure hg hd (fun _ _ => o_pick_b hz hx hy) kk
theorem d_b  (ix : Nat) (kk : WD P N ops S Q fuel (listed.setIfInBounds ix true) ((d, (.bool (bif q1 then q2 else q3))) :: e) w) (hi' : ops[ix]? = some ⟨some d, .pick z x y, ty, pos, af, g⟩ := by exact rfl) (hz : ev e z = some (.bool q1) := by exact rfl) (hx : ev e x = some (.bool q2) := by exact rfl) (hy : ev e y = some (.bool q3) := by exact rfl) (hg : gd ops e g = some true := by exact rfl) (hd : Nat.blt d N = true := by exact rfl) (hs' : Region.noSelect ops = true := by kernel_rfl) (hf' : Region.free .any ops listed ix = true := by kernel_rfl) (hr' : (Region.ready .any ops listed).contains ix = true := by kernel_rfl) (hQ : NoPanics Q := by repeat (first|exact np_ret|refine np_then ?_|refine np_in ?_)) (hS : S w := by assumption) : WD P N ops S Q (fuel + 1) listed e w := WD_take ix hi' hs' hf' hr' hQ hg hd (fun _ _ => o_pick_b hz hx hy) hS kk
theorem e_b  (ix : Nat) (kk : WE P N ops S lasts Q fuel (listed.setIfInBounds ix true) ((d, (.bool (bif q1 then q2 else q3))) :: e) w) (hi' : ops[ix]? = some ⟨some d, .pick z x y, ty, pos, af, g⟩ := by exact rfl) (hz : ev e z = some (.bool q1) := by exact rfl) (hx : ev e x = some (.bool q2) := by exact rfl) (hy : ev e y = some (.bool q3) := by exact rfl) (hg : gd ops e g = some true := by exact rfl) (hd : Nat.blt d N = true := by exact rfl) (hs' : Region.noSelect ops = true := by kernel_rfl) (hf' : Region.free .any ops listed ix = true := by kernel_rfl) (hr' : (Region.ready .any ops listed).contains ix = true := by kernel_rfl) (hil : lasts.contains ix = false := by kernel_rfl) (hQ : NoPanics Q := by repeat (first|exact np_ret|refine np_then ?_|refine np_in ?_)) : WE P N ops S lasts Q (fuel + 1) listed e w := WE_takeP ix hi' hs' hf' hr' hil hQ hg hd (fun _ => o_pick_b hz hx hy) kk
theorem s_d [FieldT P t f ft off sz false] (kk : WL P N ops Q rest ((d, v) :: e) w) (hx : ev e x = some (.agg vs.toArray) := by exact rfl) (hv : vs[off]? = some v := by exact rfl) (hg : gd ops e g = some true := by exact rfl) (hd : Nat.blt d N = true := by exact rfl) : WL P N ops Q (⟨some d, .field t x f, ty, pos, af, g⟩ :: rest) e w := WL_pure hg hd (o_field hx hv) kk
theorem q_d [FieldT P t f ft off sz false] (kk : WQ P N ops C K rest ((d, v) :: e)) (hx : ev e x = some (.agg vs.toArray) := by exact rfl) (hv : vs[off]? = some v := by exact rfl) (hg : gd ops e g = some true := by exact rfl) (hd : Nat.blt d N = true := by exact rfl) : WQ P N ops C K (⟨some d, .field t x f, ty, pos, af, g⟩ :: rest) e := WQ_pure hg hd (fun _ _ => o_field hx hv) kk
theorem d_d (ix : Nat) (kk : WD P N ops S Q fuel (listed.setIfInBounds ix true) ((d, v) :: e) w) (hi' : ops[ix]? = some ⟨some d, .field t x f, ty, pos, af, g⟩ := by exact rfl) (i0 : FieldT P t f ft off sz false := by exact inferInstance) (hx : ev e x = some (.agg vs.toArray) := by exact rfl) (hv : vs[off]? = some v := by exact rfl) (hg : gd ops e g = some true := by exact rfl) (hd : Nat.blt d N = true := by exact rfl) (hs' : Region.noSelect ops = true := by kernel_rfl) (hf' : Region.free .any ops listed ix = true := by kernel_rfl) (hr' : (Region.ready .any ops listed).contains ix = true := by kernel_rfl) (hQ : NoPanics Q := by repeat (first|exact np_ret|refine np_then ?_|refine np_in ?_)) (hS : S w := by assumption) : WD P N ops S Q (fuel + 1) listed e w := WD_take ix hi' hs' hf' hr' hQ hg hd (fun _ _ => o_field hx hv) hS kk
theorem e_d (ix : Nat) (kk : WE P N ops S lasts Q fuel (listed.setIfInBounds ix true) ((d, v) :: e) w) (hi' : ops[ix]? = some ⟨some d, .field t x f, ty, pos, af, g⟩ := by exact rfl) (i0 : FieldT P t f ft off sz false := by exact inferInstance) (hx : ev e x = some (.agg vs.toArray) := by exact rfl) (hv : vs[off]? = some v := by exact rfl) (hg : gd ops e g = some true := by exact rfl) (hd : Nat.blt d N = true := by exact rfl) (hs' : Region.noSelect ops = true := by kernel_rfl) (hf' : Region.free .any ops listed ix = true := by kernel_rfl) (hr' : (Region.ready .any ops listed).contains ix = true := by kernel_rfl) (hil : lasts.contains ix = false := by kernel_rfl) (hQ : NoPanics Q := by repeat (first|exact np_ret|refine np_then ?_|refine np_in ?_)) : WE P N ops S lasts Q (fuel + 1) listed e w := WE_takeP ix hi' hs' hf' hr' hil hQ hg hd (fun _ => o_field hx hv) kk
theorem s_g [FieldT P t f ft off sz true] (kk : WL P N ops Q rest ((d, (.agg us.toArray)) :: e) w) (hx : ev e x = some (.agg vs.toArray) := by exact rfl) (hv : (vs.drop off).take sz = us := by exact rfl) (hg : gd ops e g = some true := by exact rfl) (hd : Nat.blt d N = true := by exact rfl) : WL P N ops Q (⟨some d, .field t x f, ty, pos, af, g⟩ :: rest) e w := WL_pure hg hd (o_fieldS hx hv) kk
theorem q_g [FieldT P t f ft off sz true] (kk : WQ P N ops C K rest ((d, (.agg us.toArray)) :: e)) (hx : ev e x = some (.agg vs.toArray) := by exact rfl) (hv : (vs.drop off).take sz = us := by exact rfl) (hg : gd ops e g = some true := by exact rfl) (hd : Nat.blt d N = true := by exact rfl) : WQ P N ops C K (⟨some d, .field t x f, ty, pos, af, g⟩ :: rest) e := WQ_pure hg hd (fun _ _ => o_fieldS hx hv) kk
theorem d_g (ix : Nat) (kk : WD P N ops S Q fuel (listed.setIfInBounds ix true) ((d, (.agg us.toArray)) :: e) w) (hi' : ops[ix]? = some ⟨some d, .field t x f, ty, pos, af, g⟩ := by exact rfl) (i0 : FieldT P t f ft off sz true := by exact inferInstance) (hx : ev e x = some (.agg vs.toArray) := by exact rfl) (hv : (vs.drop off).take sz = us := by exact rfl) (hg : gd ops e g = some true := by exact rfl) (hd : Nat.blt d N = true := by exact rfl) (hs' : Region.noSelect ops = true := by kernel_rfl) (hf' : Region.free .any ops listed ix = true := by kernel_rfl) (hr' : (Region.ready .any ops listed).contains ix = true := by kernel_rfl) (hQ : NoPanics Q := by repeat (first|exact np_ret|refine np_then ?_|refine np_in ?_)) (hS : S w := by assumption) : WD P N ops S Q (fuel + 1) listed e w := WD_take ix hi' hs' hf' hr' hQ hg hd (fun _ _ => o_fieldS hx hv) hS kk
theorem e_g (ix : Nat) (kk : WE P N ops S lasts Q fuel (listed.setIfInBounds ix true) ((d, (.agg us.toArray)) :: e) w) (hi' : ops[ix]? = some ⟨some d, .field t x f, ty, pos, af, g⟩ := by exact rfl) (i0 : FieldT P t f ft off sz true := by exact inferInstance) (hx : ev e x = some (.agg vs.toArray) := by exact rfl) (hv : (vs.drop off).take sz = us := by exact rfl) (hg : gd ops e g = some true := by exact rfl) (hd : Nat.blt d N = true := by exact rfl) (hs' : Region.noSelect ops = true := by kernel_rfl) (hf' : Region.free .any ops listed ix = true := by kernel_rfl) (hr' : (Region.ready .any ops listed).contains ix = true := by kernel_rfl) (hil : lasts.contains ix = false := by kernel_rfl) (hQ : NoPanics Q := by repeat (first|exact np_ret|refine np_then ?_|refine np_in ?_)) : WE P N ops S lasts Q (fuel + 1) listed e w := WE_takeP ix hi' hs' hf' hr' hil hQ hg hd (fun _ => o_fieldS hx hv) kk
theorem s_q [BoolT P t] (kk : WL P N ops Q rest ((d, (.bool (!(q1 == q2)))) :: e) w) (hx : ev e x = some (.bool q1) := by exact rfl) (hy : ev e y = some (.bool q2) := by exact rfl) (hg : gd ops e g = some true := by exact rfl) (hd : Nat.blt d N = true := by exact rfl) : WL P N ops Q (⟨some d, .binOp .neq t x y t', ty, pos, af, g⟩ :: rest) e w := WL_pure hg hd (o_neqb inferInstance hx hy) kk
theorem q_q [BoolT P t] (kk : WQ P N ops C K rest ((d, (.bool (!(q1 == q2)))) :: e)) (hx : ev e x = some (.bool q1) := by exact rfl) (hy : ev e y = some (.bool q2) := by exact rfl) (hg : gd ops e g = some true := by exact rfl) (hd : Nat.blt d N = true := by exact rfl) : WQ P N ops C K (⟨some d, .binOp .neq t x y t', ty, pos, af, g⟩ :: rest) e := WQ_pure hg hd (fun _ _ => o_neqb inferInstance hx hy) kk
theorem d_q (ix : Nat) (kk : WD P N ops S Q fuel (listed.setIfInBounds ix true) ((d, (.bool (!(q1 == q2)))) :: e) w) (hi' : ops[ix]? = some ⟨some d, .binOp .neq t x y t', ty, pos, af, g⟩ := by exact rfl) (i0 : BoolT P t := by exact inferInstance) (hx : ev e x = some (.bool q1) := by exact rfl) (hy : ev e y = some (.bool q2) := by exact rfl) (hg : gd ops e g = some true := by exact rfl) (hd : Nat.blt d N = true := by exact rfl) (hs' : Region.noSelect ops = true := by kernel_rfl) (hf' : Region.free .any ops listed ix = true := by kernel_rfl) (hr' : (Region.ready .any ops listed).contains ix = true := by kernel_rfl) (hQ : NoPanics Q := by repeat (first|exact np_ret|refine np_then ?_|refine np_in ?_)) (hS : S w := by assumption) : WD P N ops S Q (fuel + 1) listed e w := WD_take ix hi' hs' hf' hr' hQ hg hd (fun _ _ => o_neqb inferInstance hx hy) hS kk
theorem e_q (ix : Nat) (kk : WE P N ops S lasts Q fuel (listed.setIfInBounds ix true) ((d, (.bool (!(q1 == q2)))) :: e) w) (hi' : ops[ix]? = some ⟨some d, .binOp .neq t x y t', ty, pos, af, g⟩ := by exact rfl) (i0 : BoolT P t := by exact inferInstance) (hx : ev e x = some (.bool q1) := by exact rfl) (hy : ev e y = some (.bool q2) := by exact rfl) (hg : gd ops e g = some true := by exact rfl) (hd : Nat.blt d N = true := by exact rfl) (hs' : Region.noSelect ops = true := by kernel_rfl) (hf' : Region.free .any ops listed ix = true := by kernel_rfl) (hr' : (Region.ready .any ops listed).contains ix = true := by kernel_rfl) (hil : lasts.contains ix = false := by kernel_rfl) (hQ : NoPanics Q := by repeat (first|exact np_ret|refine np_then ?_|refine np_in ?_)) : WE P N ops S lasts Q (fuel + 1) listed e w := WE_takeP ix hi' hs' hf' hr' hil hQ hg hd (fun _ => o_neqb inferInstance hx hy) kk
theorem s_e [BoolT P t] (kk : WL P N ops Q rest ((d, (.bool (q1 == q2))) :: e) w) (hx : ev e x = some (.bool q1) := by exact rfl) (hy : ev e y = some (.bool q2) := by exact rfl) (hg : gd ops e g = some true := by exact rfl) (hd : Nat.blt d N = true := by exact rfl) : WL P N ops Q (⟨some d, .binOp .eql t x y t', ty, pos, af, g⟩ :: rest) e w := WL_pure hg hd (o_eqlb inferInstance hx hy) kk
theorem q_e [BoolT P t] (kk : WQ P N ops C K rest ((d, (.bool (q1 == q2))) :: e)) (hx : ev e x = some (.bool q1) := by exact rfl) (hy : ev e y = some (.bool q2) := by exact rfl) (hg : gd ops e g = some true := by exact rfl) (hd : Nat.blt d N = true := by exact rfl) : WQ P N ops C K (⟨some d, .binOp .eql t x y t', ty, pos, af, g⟩ :: rest) e := WQ_pure hg hd (fun _ _ => o_eqlb inferInstance hx hy) kk
theorem d_e (ix : Nat) (kk : WD P N ops S Q fuel (listed.setIfInBounds ix true) ((d, (.bool (q1 == q2))) :: e) w) (hi' : ops[ix]? = some ⟨some d, .binOp .eql t x y t', ty, pos, af, g⟩ := by exact rfl) (i0 : BoolT P t := by exact inferInstance) (hx : ev e x = some (.bool q1) := by exact rfl) (hy : ev e y = some (.bool q2) := by exact rfl) (hg : gd ops e g = some true := by exact rfl) (hd : Nat.blt d N = true := by exact rfl) (hs' : Region.noSelect ops = true := by kernel_rfl) (hf' : Region.free .any ops listed ix = true := by kernel_rfl) (hr' : (Region.ready .any ops listed).contains ix = true := by kernel_rfl) (hQ : NoPanics Q := by repeat (first|exact np_ret|refine np_then ?_|refine np_in ?_)) (hS : S w := by assumption) : WD P N ops S Q (fuel + 1) listed e w := WD_take ix hi' hs' hf' hr' hQ hg hd (fun _ _ => o_eqlb inferInstance hx hy) hS kk
theorem e_e (ix : Nat) (kk : WE P N ops S lasts Q fuel (listed.setIfInBounds ix true) ((d, (.bool (q1 == q2))) :: e) w) (hi' : ops[ix]? = some ⟨some d, .binOp .eql t x y t', ty, pos, af, g⟩ := by exact rfl) (i0 : BoolT P t := by exact inferInstance) (hx : ev e x = some (.bool q1) := by exact rfl) (hy : ev e y = some (.bool q2) := by exact rfl) (hg : gd ops e g = some true := by exact rfl) (hd : Nat.blt d N = true := by exact rfl) (hs' : Region.noSelect ops = true := by kernel_rfl) (hf' : Region.free .any ops listed ix = true := by kernel_rfl) (hr' : (Region.ready .any ops listed).contains ix = true := by kernel_rfl) (hil : lasts.contains ix = false := by kernel_rfl) (hQ : NoPanics Q := by repeat (first|exact np_ret|refine np_then ?_|refine np_in ?_)) : WE P N ops S lasts Q (fuel + 1) listed e w := WE_takeP ix hi' hs' hf' hr' hil hQ hg hd (fun _ => o_eqlb inferInstance hx hy) kk
theorem s_j [ArrayT P t n el] [ElemT P el sz bytes zc] (kk : WL P N ops Q rest ((d, (.pointer (ea p sz i))) :: e) w) (hx : ev e x = some (.pointer p) := by exact rfl) (hy : ev e y = some (.int k i) := by exact rfl) (hA : p.isSome = true := by first|rfl|assumption) (h0 : 0 ≤ i := by omega) (hn : i < n := by omega) (hg : gd ops e g = some true := by exact rfl) (hd : Nat.blt d N = true := by exact rfl) : WL P N ops Q (⟨some d, .indexAddr t x y, ty, pos, af, g⟩ :: rest) e w := WL_pure hg hd (o_indexAddrA hx hy hA h0 hn) kk
theorem q_j [ArrayT P t n el] [ElemT P el sz bytes zc] (kk : WQ P N ops C K rest ((d, (.pointer (ea p sz i))) :: e)) (hx : ev e x = some (.pointer p) := by exact rfl) (hy : ev e y = some (.int k i) := by exact rfl) (hA : p.isSome = true := by first|rfl|assumption) (h0 : 0 ≤ i := by omega) (hn : i < n := by omega) (hg : gd ops e g = some true := by exact rfl) (hd : Nat.blt d N = true := by exact rfl) : WQ P N ops C K (⟨some d, .indexAddr t x y, ty, pos, af, g⟩ :: rest) e := WQ_pure hg hd (fun _ _ => o_indexAddrA hx hy hA h0 hn) kk
theorem d_j (ix : Nat) (kk : WD P N ops S Q fuel (listed.setIfInBounds ix true) ((d, (.pointer (ea p sz i))) :: e) w) (hi' : ops[ix]? = some ⟨some d, .indexAddr t x y, ty, pos, af, g⟩ := by exact rfl) (hx : ev e x = some (.pointer p) := by exact rfl) (hy : ev e y = some (.int k i) := by exact rfl) (hA : p.isSome = true := by first|rfl|assumption) (h0 : 0 ≤ i := by omega) (iA : ArrayT P t n el := by exact inferInstance) (iE : ElemT P el sz bytes zc := by exact inferInstance) (hn : i < n := by omega) (hg : gd ops e g = some true := by exact rfl) (hd : Nat.blt d N = true := by exact rfl) (hs' : Region.noSelect ops = true := by kernel_rfl) (hf' : Region.free .any ops listed ix = true := by kernel_rfl) (hr' : (Region.ready .any ops listed).contains ix = true := by kernel_rfl) (hQ : NoPanics Q := by repeat (first|exact np_ret|refine np_then ?_|refine np_in ?_)) (hS : S w := by assumption) : WD P N ops S Q (fuel + 1) listed e w := WD_take ix hi' hs' hf' hr' hQ hg hd (fun _ _ => o_indexAddrA (ht := iA) (he := iE) hx hy hA h0 hn) hS kk
theorem e_j (ix : Nat) (kk : WE P N ops S lasts Q fuel (listed.setIfInBounds ix true) ((d, (.pointer (ea p sz i))) :: e) w) (hi' : ops[ix]? = some ⟨some d, .indexAddr t x y, ty, pos, af, g⟩ := by exact rfl) (hx : ev e x = some (.pointer p) := by exact rfl) (hy : ev e y = some (.int k i) := by exact rfl) (hA : p.isSome = true := by first|rfl|assumption) (h0 : 0 ≤ i := by omega) (iA : ArrayT P t n el := by exact inferInstance) (iE : ElemT P el sz bytes zc := by exact inferInstance) (hn : i < n := by omega) (hg : gd ops e g = some true := by exact rfl) (hd : Nat.blt d N = true := by exact rfl) (hs' : Region.noSelect ops = true := by kernel_rfl) (hf' : Region.free .any ops listed ix = true := by kernel_rfl) (hr' : (Region.ready .any ops listed).contains ix = true := by kernel_rfl) (hil : lasts.contains ix = false := by kernel_rfl) (hQ : NoPanics Q := by repeat (first|exact np_ret|refine np_then ?_|refine np_in ?_)) : WE P N ops S lasts Q (fuel + 1) listed e w := WE_takeP ix hi' hs' hf' hr' hil hQ hg hd (fun _ => o_indexAddrA (ht := iA) (he := iE) hx hy hA h0 hn) kk
theorem s_l1 [ScalarT P t] (kk : WL P N ops Q rest ((d, v) :: e) w) (hx : ev e x = some (.pointer (fa (some ⟨bk, 0, none⟩) off)) := by exact rfl) (hc : Blk w bk tt cs := by assumption) (hv : cs[off]? = some v := by exact rfl) (hg : gd ops e g = some true := by exact rfl) (hd : Nat.blt d N = true := by exact rfl) : WL P N ops Q (⟨some d, .load t x, ty, pos, af, g⟩ :: rest) e w := WL_pure hg hd (o_load hx (Blk.fcell hc hv)) kk
theorem q_l1 [ScalarT P t] (kk : WQ P N ops (Keep w1) K rest ((d, v) :: e)) (hx : ev e x = some (.pointer (fa (some ⟨bk, 0, none⟩) off)) := by exact rfl) (hc : Blk w1 bk tt cs := by assumption) (hv : cs[off]? = some v := by exact rfl) (hg : gd ops e g = some true := by exact rfl) (hd : Nat.blt d N = true := by exact rfl) : WQ P N ops (Keep w1) K (⟨some d, .load t x, ty, pos, af, g⟩ :: rest) e := WQ_pure hg hd (fun _ h' => o_load hx (Blk.fcell (Blk.keep hc h') hv)) kk
theorem d_l1 (ix : Nat) (kk : WD P N ops (Keep w1) Q fuel (listed.setIfInBounds ix true) ((d, v) :: e) w) (hi' : ops[ix]? = some ⟨some d, .load t x, ty, pos, af, g⟩ := by exact rfl) (i0 : ScalarT P t := by exact inferInstance) (hx : ev e x = some (.pointer (fa (some ⟨bk, 0, none⟩) off)) := by exact rfl) (hc : Blk w1 bk tt cs := by assumption) (hv : cs[off]? = some v := by exact rfl) (hg : gd ops e g = some true := by exact rfl) (hd : Nat.blt d N = true := by exact rfl) (hs' : Region.noSelect ops = true := by kernel_rfl) (hf' : Region.free .any ops listed ix = true := by kernel_rfl) (hr' : (Region.ready .any ops listed).contains ix = true := by kernel_rfl) (hQ : NoPanics Q := by repeat (first|exact np_ret|refine np_then ?_|refine np_in ?_)) (hS : Keep w1 w := by assumption) : WD P N ops (Keep w1) Q (fuel + 1) listed e w := WD_take ix hi' hs' hf' hr' hQ hg hd (fun _ h' => o_load hx (Blk.fcell (Blk.keep hc h') hv)) hS kk
theorem e_l1 (ix : Nat) (kk : WE P N ops (Keep w1) lasts Q fuel (listed.setIfInBounds ix true) ((d, v) :: e) w) (hi' : ops[ix]? = some ⟨some d, .load t x, ty, pos, af, g⟩ := by exact rfl) (i0 : ScalarT P t := by exact inferInstance) (hx : ev e x = some (.pointer (fa (some ⟨bk, 0, none⟩) off)) := by exact rfl) (hc : Blk w1 bk tt cs := by assumption) (hv : cs[off]? = some v := by exact rfl) (hg : gd ops e g = some true := by exact rfl) (hd : Nat.blt d N = true := by exact rfl) (hs' : Region.noSelect ops = true := by kernel_rfl) (hf' : Region.free .any ops listed ix = true := by kernel_rfl) (hr' : (Region.ready .any ops listed).contains ix = true := by kernel_rfl) (hil : lasts.contains ix = false := by kernel_rfl) (hw' : lasts.all (fun j => waits ops 40 j ix) = true := by kernel_rfl) (hQ : NoPanics Q := by repeat (first|exact np_ret|refine np_then ?_|refine np_in ?_)) : WE P N ops (Keep w1) lasts Q (fuel + 1) listed e w := WE_take ix 40 hi' hs' hf' hr' hil hw' hQ hg hd (fun _ h' => o_load hx (Blk.fcell (Blk.keep hc h') hv)) kk
theorem s_l2 [ScalarT P t] (kk : WL P N ops Q rest ((d, v) :: e) w) (hx : ev e x = some (.pointer (p)) := by exact rfl) (hc : Cell w p v := by assumption) (hg : gd ops e g = some true := by exact rfl) (hd : Nat.blt d N = true := by exact rfl) : WL P N ops Q (⟨some d, .load t x, ty, pos, af, g⟩ :: rest) e w := WL_pure hg hd (o_load hx hc) kk
theorem q_l2 [ScalarT P t] (kk : WQ P N ops (Keep w1) K rest ((d, v) :: e)) (hx : ev e x = some (.pointer (p)) := by exact rfl) (hc : Cell w1 p v := by assumption) (hg : gd ops e g = some true := by exact rfl) (hd : Nat.blt d N = true := by exact rfl) : WQ P N ops (Keep w1) K (⟨some d, .load t x, ty, pos, af, g⟩ :: rest) e := WQ_pure hg hd (fun _ h' => o_load hx (Cell.keep hc h')) kk
theorem d_l2 (ix : Nat) (kk : WD P N ops (Keep w1) Q fuel (listed.setIfInBounds ix true) ((d, v) :: e) w) (hi' : ops[ix]? = some ⟨some d, .load t x, ty, pos, af, g⟩ := by exact rfl) (i0 : ScalarT P t := by exact inferInstance) (hx : ev e x = some (.pointer (p)) := by exact rfl) (hc : Cell w1 p v := by assumption) (hg : gd ops e g = some true := by exact rfl) (hd : Nat.blt d N = true := by exact rfl) (hs' : Region.noSelect ops = true := by kernel_rfl) (hf' : Region.free .any ops listed ix = true := by kernel_rfl) (hr' : (Region.ready .any ops listed).contains ix = true := by kernel_rfl) (hQ : NoPanics Q := by repeat (first|exact np_ret|refine np_then ?_|refine np_in ?_)) (hS : Keep w1 w := by assumption) : WD P N ops (Keep w1) Q (fuel + 1) listed e w := WD_take ix hi' hs' hf' hr' hQ hg hd (fun _ h' => o_load hx (Cell.keep hc h')) hS kk
theorem e_l2 (ix : Nat) (kk : WE P N ops (Keep w1) lasts Q fuel (listed.setIfInBounds ix true) ((d, v) :: e) w) (hi' : ops[ix]? = some ⟨some d, .load t x, ty, pos, af, g⟩ := by exact rfl) (i0 : ScalarT P t := by exact inferInstance) (hx : ev e x = some (.pointer (p)) := by exact rfl) (hc : Cell w1 p v := by assumption) (hg : gd ops e g = some true := by exact rfl) (hd : Nat.blt d N = true := by exact rfl) (hs' : Region.noSelect ops = true := by kernel_rfl) (hf' : Region.free .any ops listed ix = true := by kernel_rfl) (hr' : (Region.ready .any ops listed).contains ix = true := by kernel_rfl) (hil : lasts.contains ix = false := by kernel_rfl) (hw' : lasts.all (fun j => waits ops 40 j ix) = true := by kernel_rfl) (hQ : NoPanics Q := by repeat (first|exact np_ret|refine np_then ?_|refine np_in ?_)) : WE P N ops (Keep w1) lasts Q (fuel + 1) listed e w := WE_take ix 40 hi' hs' hf' hr' hil hw' hQ hg hd (fun _ h' => o_load hx (Cell.keep hc h')) kk
theorem s_l3 [AggT P t] [ElemT P t sz bytes zc] (kk : WL P N ops Q rest ((d, (.agg cs.toArray)) :: e) w) (hx : ev e x = some (.pointer (some ⟨bk, 0, none⟩)) := by exact rfl) (hc : Blk w bk tt cs := by assumption) (hl : cs.length = sz := by exact rfl) (hg : gd ops e g = some true := by exact rfl) (hd : Nat.blt d N = true := by exact rfl) : WL P N ops Q (⟨some d, .load t x, ty, pos, af, g⟩ :: rest) e w := WL_pure hg hd (o_loadS hx (Blk.cells hc) hl) kk
theorem q_l3 [AggT P t] [ElemT P t sz bytes zc] (kk : WQ P N ops (Keep w1) K rest ((d, (.agg cs.toArray)) :: e)) (hx : ev e x = some (.pointer (some ⟨bk, 0, none⟩)) := by exact rfl) (hc : Blk w1 bk tt cs := by assumption) (hl : cs.length = sz := by exact rfl) (hg : gd ops e g = some true := by exact rfl) (hd : Nat.blt d N = true := by exact rfl) : WQ P N ops (Keep w1) K (⟨some d, .load t x, ty, pos, af, g⟩ :: rest) e := WQ_pure hg hd (fun _ h' => o_loadS hx (Blk.cells (Blk.keep hc h')) hl) kk
theorem d_l3 (ix : Nat) (kk : WD P N ops (Keep w1) Q fuel (listed.setIfInBounds ix true) ((d, (.agg cs.toArray)) :: e) w) (hi' : ops[ix]? = some ⟨some d, .load t x, ty, pos, af, g⟩ := by exact rfl) (i0 : AggT P t := by exact inferInstance) (i1 : ElemT P t sz bytes zc := by exact inferInstance) (hx : ev e x = some (.pointer (some ⟨bk, 0, none⟩)) := by exact rfl) (hc : Blk w1 bk tt cs := by assumption) (hl : cs.length = sz := by exact rfl) (hg : gd ops e g = some true := by exact rfl) (hd : Nat.blt d N = true := by exact rfl) (hs' : Region.noSelect ops = true := by kernel_rfl) (hf' : Region.free .any ops listed ix = true := by kernel_rfl) (hr' : (Region.ready .any ops listed).contains ix = true := by kernel_rfl) (hQ : NoPanics Q := by repeat (first|exact np_ret|refine np_then ?_|refine np_in ?_)) (hS : Keep w1 w := by assumption) : WD P N ops (Keep w1) Q (fuel + 1) listed e w := WD_take ix hi' hs' hf' hr' hQ hg hd (fun _ h' => o_loadS hx (Blk.cells (Blk.keep hc h')) hl) hS kk
theorem e_l3 (ix : Nat) (kk : WE P N ops (Keep w1) lasts Q fuel (listed.setIfInBounds ix true) ((d, (.agg cs.toArray)) :: e) w) (hi' : ops[ix]? = some ⟨some d, .load t x, ty, pos, af, g⟩ := by exact rfl) (i0 : AggT P t := by exact inferInstance) (i1 : ElemT P t sz bytes zc := by exact inferInstance) (hx : ev e x = some (.pointer (some ⟨bk, 0, none⟩)) := by exact rfl) (hc : Blk w1 bk tt cs := by assumption) (hl : cs.length = sz := by exact rfl) (hg : gd ops e g = some true := by exact rfl) (hd : Nat.blt d N = true := by exact rfl) (hs' : Region.noSelect ops = true := by kernel_rfl) (hf' : Region.free .any ops listed ix = true := by kernel_rfl) (hr' : (Region.ready .any ops listed).contains ix = true := by kernel_rfl) (hil : lasts.contains ix = false := by kernel_rfl) (hw' : lasts.all (fun j => waits ops 40 j ix) = true := by kernel_rfl) (hQ : NoPanics Q := by repeat (first|exact np_ret|refine np_then ?_|refine np_in ?_)) : WE P N ops (Keep w1) lasts Q (fuel + 1) listed e w := WE_take ix 40 hi' hs' hf' hr' hil hw' hQ hg hd (fun _ h' => o_loadS hx (Blk.cells (Blk.keep hc h')) hl) kk
theorem s_l4 [ScalarT P t] (kk : WL P N ops Q rest ((d, v) :: e) w) (hx : ev e x = some (.pointer (fa p off)) := by exact rfl) (hc : Cells w p cs := by assumption) (hv : cs[off]? = some v := by exact rfl) (hg : gd ops e g = some true := by exact rfl) (hd : Nat.blt d N = true := by exact rfl) : WL P N ops Q (⟨some d, .load t x, ty, pos, af, g⟩ :: rest) e w := WL_pure hg hd (o_load hx (Cells.at_ hc hv)) kk
theorem q_l4 [ScalarT P t] (kk : WQ P N ops (Keep w1) K rest ((d, v) :: e)) (hx : ev e x = some (.pointer (fa p off)) := by exact rfl) (hc : Cells w1 p cs := by assumption) (hv : cs[off]? = some v := by exact rfl) (hg : gd ops e g = some true := by exact rfl) (hd : Nat.blt d N = true := by exact rfl) : WQ P N ops (Keep w1) K (⟨some d, .load t x, ty, pos, af, g⟩ :: rest) e := WQ_pure hg hd (fun _ h' => o_load hx (Cells.at_ (Cells.keep hc h') hv)) kk
theorem d_l4 (ix : Nat) (kk : WD P N ops (Keep w1) Q fuel (listed.setIfInBounds ix true) ((d, v) :: e) w) (hi' : ops[ix]? = some ⟨some d, .load t x, ty, pos, af, g⟩ := by exact rfl) (i0 : ScalarT P t := by exact inferInstance) (hx : ev e x = some (.pointer (fa p off)) := by exact rfl) (hc : Cells w1 p cs := by assumption) (hv : cs[off]? = some v := by exact rfl) (hg : gd ops e g = some true := by exact rfl) (hd : Nat.blt d N = true := by exact rfl) (hs' : Region.noSelect ops = true := by kernel_rfl) (hf' : Region.free .any ops listed ix = true := by kernel_rfl) (hr' : (Region.ready .any ops listed).contains ix = true := by kernel_rfl) (hQ : NoPanics Q := by repeat (first|exact np_ret|refine np_then ?_|refine np_in ?_)) (hS : Keep w1 w := by assumption) : WD P N ops (Keep w1) Q (fuel + 1) listed e w := WD_take ix hi' hs' hf' hr' hQ hg hd (fun _ h' => o_load hx (Cells.at_ (Cells.keep hc h') hv)) hS kk
theorem e_l4 (ix : Nat) (kk : WE P N ops (Keep w1) lasts Q fuel (listed.setIfInBounds ix true) ((d, v) :: e) w) (hi' : ops[ix]? = some ⟨some d, .load t x, ty, pos, af, g⟩ := by exact rfl) (i0 : ScalarT P t := by exact inferInstance) (hx : ev e x = some (.pointer (fa p off)) := by exact rfl) (hc : Cells w1 p cs := by assumption) (hv : cs[off]? = some v := by exact rfl) (hg : gd ops e g = some true := by exact rfl) (hd : Nat.blt d N = true := by exact rfl) (hs' : Region.noSelect ops = true := by kernel_rfl) (hf' : Region.free .any ops listed ix = true := by kernel_rfl) (hr' : (Region.ready .any ops listed).contains ix = true := by kernel_rfl) (hil : lasts.contains ix = false := by kernel_rfl) (hw' : lasts.all (fun j => waits ops 40 j ix) = true := by kernel_rfl) (hQ : NoPanics Q := by repeat (first|exact np_ret|refine np_then ?_|refine np_in ?_)) : WE P N ops (Keep w1) lasts Q (fuel + 1) listed e w := WE_take ix 40 hi' hs' hf' hr' hil hw' hQ hg hd (fun _ h' => o_load hx (Cells.at_ (Cells.keep hc h') hv)) kk
theorem s_l5 [AggT P t] [ElemT P t sz bytes zc] (kk : WL P N ops Q rest ((d, (.agg cs.toArray)) :: e) w) (hx : ev e x = some (.pointer (p)) := by exact rfl) (hc : Cells w p cs := by assumption) (hl : cs.length = sz := by exact rfl) (hg : gd ops e g = some true := by exact rfl) (hd : Nat.blt d N = true := by exact rfl) : WL P N ops Q (⟨some d, .load t x, ty, pos, af, g⟩ :: rest) e w := WL_pure hg hd (o_loadS hx hc hl) kk
theorem q_l5 [AggT P t] [ElemT P t sz bytes zc] (kk : WQ P N ops (Keep w1) K rest ((d, (.agg cs.toArray)) :: e)) (hx : ev e x = some (.pointer (p)) := by exact rfl) (hc : Cells w1 p cs := by assumption) (hl : cs.length = sz := by exact rfl) (hg : gd ops e g = some true := by exact rfl) (hd : Nat.blt d N = true := by exact rfl) : WQ P N ops (Keep w1) K (⟨some d, .load t x, ty, pos, af, g⟩ :: rest) e := WQ_pure hg hd (fun _ h' => o_loadS hx (Cells.keep hc h') hl) kk
theorem d_l5 (ix : Nat) (kk : WD P N ops (Keep w1) Q fuel (listed.setIfInBounds ix true) ((d, (.agg cs.toArray)) :: e) w) (hi' : ops[ix]? = some ⟨some d, .load t x, ty, pos, af, g⟩ := by exact rfl) (i0 : AggT P t := by exact inferInstance) (i1 : ElemT P t sz bytes zc := by exact inferInstance) (hx : ev e x = some (.pointer (p)) := by exact rfl) (hc : Cells w1 p cs := by assumption) (hl : cs.length = sz := by exact rfl) (hg : gd ops e g = some true := by exact rfl) (hd : Nat.blt d N = true := by exact rfl) (hs' : Region.noSelect ops = true := by kernel_rfl) (hf' : Region.free .any ops listed ix = true := by kernel_rfl) (hr' : (Region.ready .any ops listed).contains ix = true := by kernel_rfl) (hQ : NoPanics Q := by repeat (first|exact np_ret|refine np_then ?_|refine np_in ?_)) (hS : Keep w1 w := by assumption) : WD P N ops (Keep w1) Q (fuel + 1) listed e w := WD_take ix hi' hs' hf' hr' hQ hg hd (fun _ h' => o_loadS hx (Cells.keep hc h') hl) hS kk
theorem e_l5 (ix : Nat) (kk : WE P N ops (Keep w1) lasts Q fuel (listed.setIfInBounds ix true) ((d, (.agg cs.toArray)) :: e) w) (hi' : ops[ix]? = some ⟨some d, .load t x, ty, pos, af, g⟩ := by exact rfl) (i0 : AggT P t := by exact inferInstance) (i1 : ElemT P t sz bytes zc := by exact inferInstance) (hx : ev e x = some (.pointer (p)) := by exact rfl) (hc : Cells w1 p cs := by assumption) (hl : cs.length = sz := by exact rfl) (hg : gd ops e g = some true := by exact rfl) (hd : Nat.blt d N = true := by exact rfl) (hs' : Region.noSelect ops = true := by kernel_rfl) (hf' : Region.free .any ops listed ix = true := by kernel_rfl) (hr' : (Region.ready .any ops listed).contains ix = true := by kernel_rfl) (hil : lasts.contains ix = false := by kernel_rfl) (hw' : lasts.all (fun j => waits ops 40 j ix) = true := by kernel_rfl) (hQ : NoPanics Q := by repeat (first|exact np_ret|refine np_then ?_|refine np_in ?_)) : WE P N ops (Keep w1) lasts Q (fuel + 1) listed e w := WE_take ix 40 hi' hs' hf' hr' hil hw' hQ hg hd (fun _ h' => o_loadS hx (Cells.keep hc h') hl) kk
theorem s_l6 [ScalarT P t] (kk : WL P N ops Q rest ((d, v) :: e) w) (hx : ev e x = some (.pointer (fa (fa p off) f)) := by exact rfl) (hc : Cells w p cs := by assumption) (hv : cs[off + f]? = some v := by exact rfl) (hg : gd ops e g = some true := by exact rfl) (hd : Nat.blt d N = true := by exact rfl) : WL P N ops Q (⟨some d, .load t x, ty, pos, af, g⟩ :: rest) e w := WL_pure hg hd (o_load hx (Cells.at2 hc hv)) kk
theorem q_l6 [ScalarT P t] (kk : WQ P N ops (Keep w1) K rest ((d, v) :: e)) (hx : ev e x = some (.pointer (fa (fa p off) f)) := by exact rfl) (hc : Cells w1 p cs := by assumption) (hv : cs[off + f]? = some v := by exact rfl) (hg : gd ops e g = some true := by exact rfl) (hd : Nat.blt d N = true := by exact rfl) : WQ P N ops (Keep w1) K (⟨some d, .load t x, ty, pos, af, g⟩ :: rest) e := WQ_pure hg hd (fun _ h' => o_load hx (Cells.at2 (Cells.keep hc h') hv)) kk
theorem d_l6 (ix : Nat) (kk : WD P N ops (Keep w1) Q fuel (listed.setIfInBounds ix true) ((d, v) :: e) w) (hi' : ops[ix]? = some ⟨some d, .load t x, ty, pos, af, g⟩ := by exact rfl) (i0 : ScalarT P t := by exact inferInstance) (hx : ev e x = some (.pointer (fa (fa p off) f)) := by exact rfl) (hc : Cells w1 p cs := by assumption) (hv : cs[off + f]? = some v := by exact rfl) (hg : gd ops e g = some true := by exact rfl) (hd : Nat.blt d N = true := by exact rfl) (hs' : Region.noSelect ops = true := by kernel_rfl) (hf' : Region.free .any ops listed ix = true := by kernel_rfl) (hr' : (Region.ready .any ops listed).contains ix = true := by kernel_rfl) (hQ : NoPanics Q := by repeat (first|exact np_ret|refine np_then ?_|refine np_in ?_)) (hS : Keep w1 w := by assumption) : WD P N ops (Keep w1) Q (fuel + 1) listed e w := WD_take ix hi' hs' hf' hr' hQ hg hd (fun _ h' => o_load hx (Cells.at2 (Cells.keep hc h') hv)) hS kk
theorem e_l6 (ix : Nat) (kk : WE P N ops (Keep w1) lasts Q fuel (listed.setIfInBounds ix true) ((d, v) :: e) w) (hi' : ops[ix]? = some ⟨some d, .load t x, ty, pos, af, g⟩ := by exact rfl) (i0 : ScalarT P t := by exact inferInstance) (hx : ev e x = some (.pointer (fa (fa p off) f)) := by exact rfl) (hc : Cells w1 p cs := by assumption) (hv : cs[off + f]? = some v := by exact rfl) (hg : gd ops e g = some true := by exact rfl) (hd : Nat.blt d N = true := by exact rfl) (hs' : Region.noSelect ops = true := by kernel_rfl) (hf' : Region.free .any ops listed ix = true := by kernel_rfl) (hr' : (Region.ready .any ops listed).contains ix = true := by kernel_rfl) (hil : lasts.contains ix = false := by kernel_rfl) (hw' : lasts.all (fun j => waits ops 40 j ix) = true := by kernel_rfl) (hQ : NoPanics Q := by repeat (first|exact np_ret|refine np_then ?_|refine np_in ?_)) : WE P N ops (Keep w1) lasts Q (fuel + 1) listed e w := WE_take ix 40 hi' hs' hf' hr' hil hw' hQ hg hd (fun _ h' => o_load hx (Cells.at2 (Cells.keep hc h') hv)) kk
theorem s_l7 [ScalarT P t] (kk : WL P N ops Q rest ((d, v) :: e) w) (hx : ev e x = some (.pointer (fa (fa (some ⟨bk, 0, none⟩) off) f)) := by exact rfl) (hc : Blk w bk tt cs := by assumption) (hv : cs[off + f]? = some v := by exact rfl) (hg : gd ops e g = some true := by exact rfl) (hd : Nat.blt d N = true := by exact rfl) : WL P N ops Q (⟨some d, .load t x, ty, pos, af, g⟩ :: rest) e w := WL_pure hg hd (o_load hx (Blk.at2 hc hv)) kk
theorem q_l7 [ScalarT P t] (kk : WQ P N ops (Keep w1) K rest ((d, v) :: e)) (hx : ev e x = some (.pointer (fa (fa (some ⟨bk, 0, none⟩) off) f)) := by exact rfl) (hc : Blk w1 bk tt cs := by assumption) (hv : cs[off + f]? = some v := by exact rfl) (hg : gd ops e g = some true := by exact rfl) (hd : Nat.blt d N = true := by exact rfl) : WQ P N ops (Keep w1) K (⟨some d, .load t x, ty, pos, af, g⟩ :: rest) e := WQ_pure hg hd (fun _ h' => o_load hx (Blk.at2 (Blk.keep hc h') hv)) kk
theorem d_l7 (ix : Nat) (kk : WD P N ops (Keep w1) Q fuel (listed.setIfInBounds ix true) ((d, v) :: e) w) (hi' : ops[ix]? = some ⟨some d, .load t x, ty, pos, af, g⟩ := by exact rfl) (i0 : ScalarT P t := by exact inferInstance) (hx : ev e x = some (.pointer (fa (fa (some ⟨bk, 0, none⟩) off) f)) := by exact rfl) (hc : Blk w1 bk tt cs := by assumption) (hv : cs[off + f]? = some v := by exact rfl) (hg : gd ops e g = some true := by exact rfl) (hd : Nat.blt d N = true := by exact rfl) (hs' : Region.noSelect ops = true := by kernel_rfl) (hf' : Region.free .any ops listed ix = true := by kernel_rfl) (hr' : (Region.ready .any ops listed).contains ix = true := by kernel_rfl) (hQ : NoPanics Q := by repeat (first|exact np_ret|refine np_then ?_|refine np_in ?_)) (hS : Keep w1 w := by assumption) : WD P N ops (Keep w1) Q (fuel + 1) listed e w := WD_take ix hi' hs' hf' hr' hQ hg hd (fun _ h' => o_load hx (Blk.at2 (Blk.keep hc h') hv)) hS kk
theorem e_l7 (ix : Nat) (kk : WE P N ops (Keep w1) lasts Q fuel (listed.setIfInBounds ix true) ((d, v) :: e) w) (hi' : ops[ix]? = some ⟨some d, .load t x, ty, pos, af, g⟩ := by exact rfl) (i0 : ScalarT P t := by exact inferInstance) (hx : ev e x = some (.pointer (fa (fa (some ⟨bk, 0, none⟩) off) f)) := by exact rfl) (hc : Blk w1 bk tt cs := by assumption) (hv : cs[off + f]? = some v := by exact rfl) (hg : gd ops e g = some true := by exact rfl) (hd : Nat.blt d N = true := by exact rfl) (hs' : Region.noSelect ops = true := by kernel_rfl) (hf' : Region.free .any ops listed ix = true := by kernel_rfl) (hr' : (Region.ready .any ops listed).contains ix = true := by kernel_rfl) (hil : lasts.contains ix = false := by kernel_rfl) (hw' : lasts.all (fun j => waits ops 40 j ix) = true := by kernel_rfl) (hQ : NoPanics Q := by repeat (first|exact np_ret|refine np_then ?_|refine np_in ?_)) : WE P N ops (Keep w1) lasts Q (fuel + 1) listed e w := WE_take ix 40 hi' hs' hf' hr' hil hw' hQ hg hd (fun _ h' => o_load hx (Blk.at2 (Blk.keep hc h') hv)) kk
theorem s_l8 [AggT P t] [ElemT P t sz bytes zc] (kk : WL P N ops Q rest ((d, (.agg cs.toArray)) :: e) w) (hx : ev e x = some (.pointer (fa p 1)) := by exact rfl) (hc : Cells w p (v :: cs) := by assumption) (hl : cs.length = sz := by exact rfl) (hg : gd ops e g = some true := by exact rfl) (hd : Nat.blt d N = true := by exact rfl) : WL P N ops Q (⟨some d, .load t x, ty, pos, af, g⟩ :: rest) e w := WL_pure hg hd (o_loadS hx (Cells.tail1 hc) hl) kk
theorem q_l8 [AggT P t] [ElemT P t sz bytes zc] (kk : WQ P N ops (Keep w1) K rest ((d, (.agg cs.toArray)) :: e)) (hx : ev e x = some (.pointer (fa p 1)) := by exact rfl) (hc : Cells w1 p (v :: cs) := by assumption) (hl : cs.length = sz := by exact rfl) (hg : gd ops e g = some true := by exact rfl) (hd : Nat.blt d N = true := by exact rfl) : WQ P N ops (Keep w1) K (⟨some d, .load t x, ty, pos, af, g⟩ :: rest) e := WQ_pure hg hd (fun _ h' => o_loadS hx (Cells.tail1 (Cells.keep hc h')) hl) kk
theorem d_l8 (ix : Nat) (kk : WD P N ops (Keep w1) Q fuel (listed.setIfInBounds ix true) ((d, (.agg cs.toArray)) :: e) w) (hi' : ops[ix]? = some ⟨some d, .load t x, ty, pos, af, g⟩ := by exact rfl) (i0 : AggT P t := by exact inferInstance) (i1 : ElemT P t sz bytes zc := by exact inferInstance) (hx : ev e x = some (.pointer (fa p 1)) := by exact rfl) (hc : Cells w1 p (v :: cs) := by assumption) (hl : cs.length = sz := by exact rfl) (hg : gd ops e g = some true := by exact rfl) (hd : Nat.blt d N = true := by exact rfl) (hs' : Region.noSelect ops = true := by kernel_rfl) (hf' : Region.free .any ops listed ix = true := by kernel_rfl) (hr' : (Region.ready .any ops listed).contains ix = true := by kernel_rfl) (hQ : NoPanics Q := by repeat (first|exact np_ret|refine np_then ?_|refine np_in ?_)) (hS : Keep w1 w := by assumption) : WD P N ops (Keep w1) Q (fuel + 1) listed e w := WD_take ix hi' hs' hf' hr' hQ hg hd (fun _ h' => o_loadS hx (Cells.tail1 (Cells.keep hc h')) hl) hS kk
theorem e_l8 (ix : Nat) (kk : WE P N ops (Keep w1) lasts Q fuel (listed.setIfInBounds ix true) ((d, (.agg cs.toArray)) :: e) w) (hi' : ops[ix]? = some ⟨some d, .load t x, ty, pos, af, g⟩ := by exact rfl) (i0 : AggT P t := by exact inferInstance) (i1 : ElemT P t sz bytes zc := by exact inferInstance) (hx : ev e x = some (.pointer (fa p 1)) := by exact rfl) (hc : Cells w1 p (v :: cs) := by assumption) (hl : cs.length = sz := by exact rfl) (hg : gd ops e g = some true := by exact rfl) (hd : Nat.blt d N = true := by exact rfl) (hs' : Region.noSelect ops = true := by kernel_rfl) (hf' : Region.free .any ops listed ix = true := by kernel_rfl) (hr' : (Region.ready .any ops listed).contains ix = true := by kernel_rfl) (hil : lasts.contains ix = false := by kernel_rfl) (hw' : lasts.all (fun j => waits ops 40 j ix) = true := by kernel_rfl) (hQ : NoPanics Q := by repeat (first|exact np_ret|refine np_then ?_|refine np_in ?_)) : WE P N ops (Keep w1) lasts Q (fuel + 1) listed e w := WE_take ix 40 hi' hs' hf' hr' hil hw' hQ hg hd (fun _ h' => o_loadS hx (Cells.tail1 (Cells.keep hc h')) hl) kk
theorem s_l9 [AggT P t] [ElemT P t sz bytes zc] (kk : WL P N ops Q rest ((d, (.agg cs.toArray)) :: e) w) (hx : ev e x = some (.pointer (fa (some ⟨bk, 0, none⟩) 1)) := by exact rfl) (hc : Blk w bk tt (v :: cs) := by assumption) (hl : cs.length = sz := by exact rfl) (hg : gd ops e g = some true := by exact rfl) (hd : Nat.blt d N = true := by exact rfl) : WL P N ops Q (⟨some d, .load t x, ty, pos, af, g⟩ :: rest) e w := WL_pure hg hd (o_loadS hx (Blk.tail1 hc) hl) kk
theorem q_l9 [AggT P t] [ElemT P t sz bytes zc] (kk : WQ P N ops (Keep w1) K rest ((d, (.agg cs.toArray)) :: e)) (hx : ev e x = some (.pointer (fa (some ⟨bk, 0, none⟩) 1)) := by exact rfl) (hc : Blk w1 bk tt (v :: cs) := by assumption) (hl : cs.length = sz := by exact rfl) (hg : gd ops e g = some true := by exact rfl) (hd : Nat.blt d N = true := by exact rfl) : WQ P N ops (Keep w1) K (⟨some d, .load t x, ty, pos, af, g⟩ :: rest) e := WQ_pure hg hd (fun _ h' => o_loadS hx (Blk.tail1 (Blk.keep hc h')) hl) kk
theorem d_l9 (ix : Nat) (kk : WD P N ops (Keep w1) Q fuel (listed.setIfInBounds ix true) ((d, (.agg cs.toArray)) :: e) w) (hi' : ops[ix]? = some ⟨some d, .load t x, ty, pos, af, g⟩ := by exact rfl) (i0 : AggT P t := by exact inferInstance) (i1 : ElemT P t sz bytes zc := by exact inferInstance) (hx : ev e x = some (.pointer (fa (some ⟨bk, 0, none⟩) 1)) := by exact rfl) (hc : Blk w1 bk tt (v :: cs) := by assumption) (hl : cs.length = sz := by exact rfl) (hg : gd ops e g = some true := by exact rfl) (hd : Nat.blt d N = true := by exact rfl) (hs' : Region.noSelect ops = true := by kernel_rfl) (hf' : Region.free .any ops listed ix = true := by kernel_rfl) (hr' : (Region.ready .any ops listed).contains ix = true := by kernel_rfl) (hQ : NoPanics Q := by repeat (first|exact np_ret|refine np_then ?_|refine np_in ?_)) (hS : Keep w1 w := by assumption) : WD P N ops (Keep w1) Q (fuel + 1) listed e w := WD_take ix hi' hs' hf' hr' hQ hg hd (fun _ h' => o_loadS hx (Blk.tail1 (Blk.keep hc h')) hl) hS kk
theorem e_l9 (ix : Nat) (kk : WE P N ops (Keep w1) lasts Q fuel (listed.setIfInBounds ix true) ((d, (.agg cs.toArray)) :: e) w) (hi' : ops[ix]? = some ⟨some d, .load t x, ty, pos, af, g⟩ := by exact rfl) (i0 : AggT P t := by exact inferInstance) (i1 : ElemT P t sz bytes zc := by exact inferInstance) (hx : ev e x = some (.pointer (fa (some ⟨bk, 0, none⟩) 1)) := by exact rfl) (hc : Blk w1 bk tt (v :: cs) := by assumption) (hl : cs.length = sz := by exact rfl) (hg : gd ops e g = some true := by exact rfl) (hd : Nat.blt d N = true := by exact rfl) (hs' : Region.noSelect ops = true := by kernel_rfl) (hf' : Region.free .any ops listed ix = true := by kernel_rfl) (hr' : (Region.ready .any ops listed).contains ix = true := by kernel_rfl) (hil : lasts.contains ix = false := by kernel_rfl) (hw' : lasts.all (fun j => waits ops 40 j ix) = true := by kernel_rfl) (hQ : NoPanics Q := by repeat (first|exact np_ret|refine np_then ?_|refine np_in ?_)) : WE P N ops (Keep w1) lasts Q (fuel + 1) listed e w := WE_take ix 40 hi' hs' hf' hr' hil hw' hQ hg hd (fun _ h' => o_loadS hx (Blk.tail1 (Blk.keep hc h')) hl) kk
end
section
variable {P : Program} {N : Nat} {ops : Array Oper} {Q : Post} {rest : List Oper} {e : Env} {w : World} {C : World → Prop} {K : Env → Prop} {KK : Env → World → Prop} {ty : TypeId} {pos : String} {af : Array Edge} {g : Option (Nat × Bool)} {d : Tmp} {op : Op} {c x y : Code} {id id' : Nat} {l : List Oper} {o : Operand}
theorem z_1 (h : W P N x (thenE (W P N y Q) Q) e w) : W P N (.seq x y) Q e w := W_seq h
theorem z_2 (h : WL P N l.toArray Q l e w) : W P N (.region id l.toArray false) Q e w := W_region h
theorem z_3 (h : KK e w) : WL P N ops (thenE KK Q) [] e w := WL_end h
theorem z_4 (h : W P N c (inE id Q) e w) : W P N (.block id c) Q e w := W_block h
theorem z_5 (h : Q .normal e w) : W P N .skip Q e w := W_skip h
theorem z_6 (h : KK e w) : thenE KK Q .normal e w := h
theorem z_7 (h : W P N x Q e w) (hc : ev e o = some (.bool true) := by exact rfl) : W P N (.cond o x y) Q e w := W_cond_t hc h
theorem z_8 (h : W P N y Q e w) (hc : ev e o = some (.bool false) := by exact rfl) : W P N (.cond o x y) Q e w := W_cond_f hc h
theorem z_9 (h : Q (.exit id) e w) : W P N (.exit id) Q e w := W_exit h
theorem z_a (h : Q (.exit id) e w) : thenE KK Q (.exit id) e w := h
theorem z_b (h : Q .normal e w) (hb : Nat.beq id' id = true := by exact rfl) : inE id Q (.exit id') e w := in_hit hb h
theorem z_d (h : Q (.exit id') e w) (hb : Nat.beq id' id = false := by exact rfl) : inE id Q (.exit id') e w := in_miss hb h
theorem z_e (h : Q .ret e w) : W P N .ret Q e w := W_ret h
theorem z_f (h : Q .ret e w) : thenE KK Q .ret e w := h
theorem z_g (h : Q .ret e w) : inE id Q .ret e w := h
theorem z_h (h : Q .normal e w) : inE id Q .normal e w := h
theorem z_i (h : Q .normal e w) : WL P N ops Q [] e w := WL_nil h
theorem z_j (k : WL P N ops Q rest ((d, undef) :: e) w) (hg : gd ops e g = some false := by exact rfl) (hd : Nat.blt d N = true := by exact rfl) : WL P N ops Q (⟨some d, op, ty, pos, af, g⟩ :: rest) e w := WL_pass' hg hd k
theorem z_k (k : WQ P N ops C K rest ((d, undef) :: e)) (hg : gd ops e g = some false := by exact rfl) (hd : Nat.blt d N = true := by exact rfl) : WQ P N ops C K (⟨some d, op, ty, pos, af, g⟩ :: rest) e := WQ_pass hg hd k
theorem z_l (h : K e) : WQ P N ops C K [] e := WQ_nil h
end
theorem zz {A B : Prop} (b : B) (h : B → A := by first | exact fun k => z_1 k | exact fun k => z_2 k | exact fun k => s_o k | exact fun k => z_3 k | exact fun k => z_4 k | exact fun k => z_5 k | exact fun k => z_6 k | exact fun k => z_7 k | exact fun k => z_8 k | exact fun k => z_9 k | exact fun k => z_a k | exact fun k => z_b k | exact fun k => z_d k | exact fun k => z_e k | exact fun k => z_f k | exact fun k => z_g k | exact fun k => z_h k | exact fun k => z_i k | exact fun k => z_j k | exact fun k => s_a k | exact fun k => s_s k | exact fun k => s_n k | exact fun k => s_i k | exact fun k => s_f k | exact fun k => s_b k | exact fun k => s_d k | exact fun k => s_l1 k | exact fun k => s_l2 k | exact fun k => s_l3 k | exact fun k => s_l4 k | exact fun k => s_l5 k | exact fun k => s_l6 k | exact fun k => s_l7 k | exact fun k => s_l8 k | exact fun k => s_l9 k | exact fun k => s_g k | exact fun k => s_q k | exact fun k => s_e k | exact fun k => s_j k) : A := h b
theorem qq {A B : Prop} (b : B) (h : B → A := by first | exact fun k => q_o k | exact fun k => z_k k | exact fun k => q_a k | exact fun k => q_s k | exact fun k => q_n k | exact fun k => q_i k | exact fun k => q_f k | exact fun k => q_b k | exact fun k => q_d k | exact fun k => q_l1 k | exact fun k => q_l2 k | exact fun k => q_l3 k | exact fun k => q_l4 k | exact fun k => q_l5 k | exact fun k => q_l6 k | exact fun k => q_l7 k | exact fun k => q_l8 k | exact fun k => q_l9 k | exact fun k => q_g k | exact fun k => q_q k | exact fun k => q_e k | exact fun k => q_j k | exact fun k => z_l k) : A := h b
end Go.E

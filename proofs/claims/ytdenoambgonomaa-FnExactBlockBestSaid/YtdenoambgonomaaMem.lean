/-
  The engine, part three: how data lies in memory (slices of whatever elements), and the operations that read and make it.
  Conditions: none; every lemma is over any program.
-/
import Derived.Test.YtdenoambgonomaaOps
namespace Go.E
open Go Go.RowKit

/-! ### How a value lies in cells -/

/-- 'rep w x cs fp': the cells cs hold x; fp are the blocks that are reached behind them -/
structure Rp (α : Type) where
  sz : Nat
  rep : World → α → List Value → List Nat → Prop
  len : ∀ {w x cs fp}, rep w x cs fp → cs.length = sz
  dom : ∀ {w x cs fp}, rep w x cs fp → ∀ b, b ∈ fp → b < w.heap.size
  same : ∀ {w w' x cs fp}, rep w x cs fp → (∀ b, b ∈ fp → w'.heap[b]? = w.heap[b]?) → rep w' x cs fp
  one : ∀ {w x cs fp}, rep w x cs fp → ∀ v, v ∈ cs → v.oneCell' = true

def Rows {α : Type} (R : Rp α) (w : World) : List α → List Value → List Nat → Prop
  | [], cs, fp => cs = [] ∧ fp = []
  | x :: xs, cs, fp => ∃ c1 c2 f1 f2, cs = c1 ++ c2 ∧ fp = f1 ++ f2 ∧ R.rep w x c1 f1 ∧ Rows R w xs c2 f2

section rows
variable {α : Type} {R : Rp α} {w w' : World}
theorem Rows.len : ∀ {xs : List α} {cs : List Value} {fp : List Nat}, Rows R w xs cs fp → cs.length = xs.length * R.sz
  | [], cs, fp, h => by simp [h.1]
  | x :: xs, cs, fp, h => by
    obtain ⟨c1, c2, f1, f2, rfl, rfl, h1, h2⟩ := h
    rw [List.length_append, R.len h1, h2.len, List.length_cons, Nat.succ_mul]; omega
theorem Rows.dom : ∀ {xs : List α} {cs : List Value} {fp : List Nat}, Rows R w xs cs fp → ∀ b, b ∈ fp → b < w.heap.size
  | [], cs, fp, h => by simp [h.2]
  | x :: xs, cs, fp, h => by
    obtain ⟨c1, c2, f1, f2, rfl, rfl, h1, h2⟩ := h
    intro b hb
    rcases List.mem_append.1 hb with hb | hb
    · exact R.dom h1 b hb
    · exact h2.dom b hb
theorem Rows.same : ∀ {xs : List α} {cs : List Value} {fp : List Nat}, Rows R w xs cs fp → (∀ b, b ∈ fp → w'.heap[b]? = w.heap[b]?) → Rows R w' xs cs fp
  | [], cs, fp, h, _ => h
  | x :: xs, cs, fp, h, hs => by
    obtain ⟨c1, c2, f1, f2, rfl, rfl, h1, h2⟩ := h
    exact ⟨c1, c2, f1, f2, rfl, rfl, R.same h1 fun b hb => hs b (List.mem_append.2 (.inl hb)), h2.same fun b hb => hs b (List.mem_append.2 (.inr hb))⟩
theorem Rows.keep {xs : List α} {cs : List Value} {fp : List Nat} (h : Rows R w xs cs fp) (k : Keep w w') : Rows R w' xs cs fp :=
  h.same fun b hb => k.block b (h.dom b hb)
theorem Rows.one : ∀ {xs : List α} {cs : List Value} {fp : List Nat}, Rows R w xs cs fp → ∀ v, v ∈ cs → v.oneCell' = true
  | [], cs, fp, h => by simp [h.1]
  | x :: xs, cs, fp, h => by
    obtain ⟨c1, c2, f1, f2, rfl, rfl, h1, h2⟩ := h
    intro v hv
    rcases List.mem_append.1 hv with hv | hv
    · exact R.one h1 v hv
    · exact h2.one v hv
theorem Rows.append : ∀ {xs ys : List α} {cs ds : List Value} {fp gp : List Nat}, Rows R w xs cs fp → Rows R w ys ds gp → Rows R w (xs ++ ys) (cs ++ ds) (fp ++ gp)
  | [], ys, cs, ds, fp, gp, h, h' => by obtain ⟨rfl, rfl⟩ := h; exact h'
  | x :: xs, ys, cs, ds, fp, gp, h, h' => by
    obtain ⟨c1, c2, f1, f2, rfl, rfl, h1, h2⟩ := h
    exact ⟨c1, c2 ++ ds, f1, f2 ++ gp, by simp, by simp, h1, h2.append h'⟩
theorem Rows.single {x : α} {cs : List Value} {fp : List Nat} (h : R.rep w x cs fp) : Rows R w [x] cs fp := ⟨cs, [], fp, [], by simp, by simp, h, rfl, rfl⟩
/-- the k-th element -/
theorem Rows.get : ∀ {xs : List α} {cs : List Value} {fp : List Nat}, Rows R w xs cs fp → ∀ (k : Nat) (hk : k < xs.length),
    ∃ c f, R.rep w xs[k] c f ∧ (∀ b, b ∈ f → b ∈ fp) ∧ (∀ j u, c[j]? = some u → cs[k * R.sz + j]? = some u)
  | x :: xs, cs, fp, h, 0, _ => by
    obtain ⟨c1, c2, f1, f2, rfl, rfl, h1, h2⟩ := h
    refine ⟨c1, f1, h1, fun b hb => List.mem_append.2 (.inl hb), fun j u hu => ?_⟩
    have hj : j < c1.length := (List.getElem?_eq_some_iff.1 hu).1
    simp only [Nat.zero_mul, Nat.zero_add]
    rw [List.getElem?_append_left hj]; exact hu
  | x :: xs, cs, fp, h, k + 1, hk => by
    obtain ⟨c1, c2, f1, f2, rfl, rfl, h1, h2⟩ := h
    obtain ⟨c, f, hr, hf, hc⟩ := h2.get k (by simpa using hk)
    refine ⟨c, f, by simpa using hr, fun b hb => List.mem_append.2 (.inr (hf b hb)), fun j u hu => ?_⟩
    have hl := R.len h1
    rw [List.getElem?_append_right (by rw [Nat.succ_mul]; omega)]
    rw [show (k + 1) * R.sz + j - c1.length = k * R.sz + j by rw [Nat.succ_mul]; omega]
    exact hc j u hu
theorem Rows.take : ∀ {xs : List α} {cs : List Value} {fp : List Nat}, Rows R w xs cs fp → ∀ (k : Nat), ∃ f, Rows R w (xs.take k) (cs.take (k * R.sz)) f ∧ (∃ f2, fp = f ++ f2 ∧ Rows R w (xs.drop k) (cs.drop (k * R.sz)) f2)
  | [], cs, fp, h, k => by obtain ⟨rfl, rfl⟩ := h; exact ⟨[], by simp [Rows], [], rfl, by simp [Rows]⟩
  | x :: xs, cs, fp, h, 0 => ⟨[], by simp [Rows], fp, rfl, by simpa using h⟩
  | x :: xs, cs, fp, h, k + 1 => by
    obtain ⟨c1, c2, f1, f2, rfl, rfl, h1, h2⟩ := h
    obtain ⟨f, hr, g, hg, hd⟩ := h2.take k
    have hl := R.len h1
    subst hg
    have e1 : (c1 ++ c2).take ((k + 1) * R.sz) = c1 ++ c2.take (k * R.sz) := by
      rw [List.take_append, show (k + 1) * R.sz - c1.length = k * R.sz by rw [Nat.succ_mul]; omega, List.take_of_length_le (by rw [Nat.succ_mul]; omega)]
    have e2 : (c1 ++ c2).drop ((k + 1) * R.sz) = c2.drop (k * R.sz) := by
      rw [List.drop_append, show (k + 1) * R.sz - c1.length = k * R.sz by rw [Nat.succ_mul]; omega, List.drop_of_length_le (by rw [Nat.succ_mul]; omega)]; rfl
    refine ⟨f1 ++ f, ⟨c1, c2.take (k * R.sz), f1, f, e1, rfl, h1, by simpa using hr⟩, g, by simp, ?_⟩
    rw [e2]; simpa using hd
end rows

/-- a slice value that reads as a list; fp: the blocks that are reached -/
def Sl {α : Type} (R : Rp α) (w : World) (v : Value) (xs : List α) (fp : List Nat) : Prop :=
  ∃ A c cells fi, v = .slice A xs.length c ∧ (xs.length ≤ c ∧ c ≤ 9223372036854775807) ∧ Rows R w xs cells fi ∧
    ((cells = [] ∧ xs = [] ∧ fp = fi) ∨ ∃ ad, A = some ad ∧ ad.block < w.heap.size ∧ (∀ j u, cells[j]? = some u → w.cell? (ad.add j) = some u) ∧ fp = ad.block :: fi)

def gi {α : Type} [Inhabited α] (xs : List α) (i : Int) : α := xs.getD i.toNat default

theorem gi_nat {α : Type} [Inhabited α] (xs : List α) (k : Nat) : gi xs (k : Int) = xs.getD k default := rfl
theorem gi_lt {α : Type} [Inhabited α] {xs : List α} {k : Nat} (h : k < xs.length) : gi xs (k : Int) = xs[k] := by simp [gi, h]
theorem drop_gi {α : Type} [Inhabited α] {xs : List α} {k : Nat} (h : k < xs.length) : xs.drop k = gi xs (k : Int) :: xs.drop (k + 1) := by
  rw [gi_lt h, List.drop_eq_getElem_cons h]
theorem take_gi {α : Type} [Inhabited α] {xs : List α} {k : Nat} (h : k < xs.length) : xs.take (k + 1) = xs.take k ++ [gi xs (k : Int)] := by
  rw [gi_lt h, List.take_succ_eq_append_getElem h]

theorem cell_heap {w w' : World} {ad : Addr} (h : w'.heap[ad.block]? = w.heap[ad.block]?) : w'.cell? ad = w.cell? ad := World.cell?_of_block (w := w) h
theorem block_add (a : Addr) (n : Nat) : (a.add n).block = a.block := by unfold Addr.add; split <;> rfl
theorem add_add (a : Addr) (i j : Nat) : (a.add i).add j = a.add (i + j) := by
  unfold Addr.add
  by_cases hi : i = 0 <;> by_cases hj : j = 0 <;> simp [hi, hj, Nat.add_assoc]

section sl
variable {α : Type} {R : Rp α} {w w' : World} {v : Value} {xs : List α} {fp : List Nat}
theorem Sl.dom (h : Sl R w v xs fp) : ∀ b, b ∈ fp → b < w.heap.size := by
  obtain ⟨A, c, cells, fi, rfl, hlc, hr, h⟩ := h
  rcases h with ⟨_, _, rfl⟩ | ⟨ad, rfl, hlt, hc, rfl⟩
  · exact hr.dom
  · intro b hb
    rcases List.mem_cons.1 hb with rfl | hb
    · exact hlt
    · exact hr.dom b hb
theorem lt_of_heap {b : Nat} (h : w'.heap[b]? = w.heap[b]?) (hb : b < w.heap.size) : b < w'.heap.size := by
  rcases Nat.lt_or_ge b w'.heap.size with hl | hg
  · exact hl
  · rw [Array.getElem?_eq_none hg, Array.getElem?_eq_getElem hb] at h; cases h
theorem Sl.same (h : Sl R w v xs fp) (hs : ∀ b, b ∈ fp → w'.heap[b]? = w.heap[b]?) : Sl R w' v xs fp := by
  obtain ⟨A, c, cells, fi, rfl, hlc, hr, h⟩ := h
  rcases h with ⟨h1, h2, rfl⟩ | ⟨ad, rfl, hlt, hc, rfl⟩
  · exact ⟨A, c, cells, fp, rfl, hlc, hr.same hs, .inl ⟨h1, h2, rfl⟩⟩
  · refine ⟨some ad, c, cells, fi, rfl, hlc, hr.same fun b hb => hs b (List.mem_cons_of_mem _ hb), .inr ⟨ad, rfl, lt_of_heap (hs _ (List.mem_cons_self ..)) hlt, fun j u hu => ?_, rfl⟩⟩
    rw [cell_heap (w := w) (by rw [block_add]; exact hs _ (List.mem_cons_self ..))]
    exact hc j u hu
theorem Sl.keep (h : Sl R w v xs fp) (k : Keep w w') : Sl R w' v xs fp := h.same fun b hb => k.block b (h.dom b hb)
theorem Sl.upd (h : Sl R w v xs fp) {b : Nat} {t : TypeId} {cs : List Value} (k : Upd w w' b t cs) (hb : b ∉ fp) : Sl R w' v xs fp :=
  h.same fun b' hb' => k.other b' fun e => hb (e ▸ hb')
theorem Sl.form (h : Sl R w v xs fp) : ∃ A c, v = .slice A xs.length c ∧ xs.length ≤ c ∧ c ≤ 9223372036854775807 := by
  obtain ⟨A, c, cells, fi, rfl, hlc, _⟩ := h
  exact ⟨A, c, rfl, hlc⟩
/-- an element: where it lies, and what it reads as -/
theorem Sl.get {A : Option Addr} {n c : Nat} [Inhabited α] (h : Sl R w (.slice A n c) xs fp) {i : Int} (h0 : 0 ≤ i) (hi : i < n) :
    A.isSome = true ∧ ∃ cs f, R.rep w (gi xs i) cs f ∧ (∀ b, b ∈ f → b ∈ fp) ∧ Cells w (ea A R.sz i) cs := by
  obtain ⟨A', c', cells, fi, he, hlc, hr, h⟩ := h
  simp only [Value.slice.injEq] at he
  obtain ⟨rfl, rfl, rfl⟩ := he
  obtain ⟨k, rfl⟩ := Int.eq_ofNat_of_zero_le h0
  have hk : k < xs.length := by omega
  rcases h with ⟨_, h2, _⟩ | ⟨ad, rfl, hlt, hc, rfl⟩
  · subst h2; simp at hk
  · refine ⟨rfl, ?_⟩
    obtain ⟨cs, f, h1, h2, h3⟩ := hr.get k hk
    refine ⟨cs, f, by rw [show gi xs ((k : Nat) : Int) = xs[k] from gi_lt hk]; exact h1, fun b hb => List.mem_cons_of_mem _ (h2 b hb), _, rfl, fun j u hu => ?_⟩
    rw [add_add]
    exact hc _ u (by simpa using h3 j u hu)
theorem Sl.nil {c : Nat} (hc : c ≤ 9223372036854775807) (A : Option Addr) : Sl R w (.slice A 0 c) [] [] := ⟨A, c, [], [], rfl, ⟨Nat.zero_le _, hc⟩, ⟨rfl, rfl⟩, .inl ⟨rfl, rfl, rfl⟩⟩
end sl

/-! ### The data of the program -/

def intR : Rp Int where
  sz := 1
  rep _ x cs fp := cs = [.int .i64 x] ∧ fp = []
  len h := by simp [h.1]
  dom h := by simp [h.2]
  same h _ := h
  one h := by simp [h.1, Value.oneCell']

theorem Sl.getI {w : World} {A : Option Addr} {n c : Nat} {xs : List Int} {fp : List Nat} (h : Sl intR w (.slice A n c) xs fp) {i : Int} (h0 : 0 ≤ i) (hi : i < n) :
    A.isSome = true ∧ Cell w (ea A 1 i) (.int .i64 (gi xs i)) := by
  obtain ⟨hA, cs, f, ⟨rfl, _⟩, _, hc⟩ := h.get h0 hi
  refine ⟨hA, ?_⟩
  obtain ⟨ad, h1, h2⟩ := hc
  exact ⟨ad, h1, by have := h2 0 _ rfl; simpa [Addr.add] using this⟩
theorem Sl.oneCell {α : Type} {R : Rp α} {w : World} {v : Value} {xs : List α} {fp : List Nat} (h : Sl R w v xs fp) : v.oneCell' = true := by
  obtain ⟨A', c', cells, fi, rfl, _⟩ := h
  rfl
theorem Sl.len {α : Type} {R : Rp α} {w : World} {A : Option Addr} {n c : Nat} {xs : List α} {fp : List Nat} (h : Sl R w (.slice A n c) xs fp) : n = xs.length := by
  obtain ⟨A', c', cells, fi, he, _⟩ := h
  simp only [Value.slice.injEq] at he
  exact he.2.1
theorem Sl.le {α : Type} {R : Rp α} {w : World} {v : Value} {xs : List α} {fp : List Nat} (h : Sl R w v xs fp) : xs.length ≤ 9223372036854775807 := by
  obtain ⟨A', c', cells, fi, he, hlc, _⟩ := h
  omega
theorem Sl.caps {α : Type} {R : Rp α} {w : World} {A : Option Addr} {n c : Nat} {xs : List α} {fp : List Nat} (h : Sl R w (.slice A n c) xs fp) : n ≤ c ∧ c ≤ 9223372036854775807 := by
  obtain ⟨A', c', cells, fi, he, hlc, _⟩ := h
  simp only [Value.slice.injEq] at he
  obtain ⟨_, rfl, rfl⟩ := he
  exact hlc
theorem Sl.split {α : Type} {R : Rp α} {w : World} {v : Value} {xs : List α} {fp : List Nat} (h : Sl R w v xs fp) : ∃ A n c, v = .slice A n c ∧ n = xs.length := by
  obtain ⟨A, c, cells, fi, rfl, _⟩ := h
  exact ⟨A, _, c, rfl, rfl⟩

def slR {α : Type} (R : Rp α) : Rp (List α) where
  sz := 1
  rep w x cs fp := ∃ v, cs = [v] ∧ Sl R w v x fp
  len h := by obtain ⟨v, rfl, _⟩ := h; rfl
  dom h := by obtain ⟨v, rfl, h⟩ := h; exact h.dom
  same h hs := by obtain ⟨v, rfl, h⟩ := h; exact ⟨v, rfl, h.same hs⟩
  one h := by
    obtain ⟨v, rfl, h⟩ := h
    obtain ⟨A, c, rfl, _⟩ := h.form
    simp [Value.oneCell']

structure Itm where
  id : Int
  vals : List Int

structure Wsh where
  kind : Int
  field : Int
  value : Int
  list : List Int
  pairs : List (Int × Int)

structure Nod where
  op : Int
  wish : Wsh

structure Rwt where
  rule : Int
  place : Int
  after : List Nod

instance : Inhabited Itm := ⟨⟨0, []⟩⟩
instance : Inhabited Wsh := ⟨⟨0, 0, 0, [], []⟩⟩
instance : Inhabited Nod := ⟨⟨0, default⟩⟩
instance : Inhabited Rwt := ⟨⟨0, 0, []⟩⟩
instance : DecidableEq Itm := fun a b => decidable_of_iff (a.id = b.id ∧ a.vals = b.vals) (by cases a; cases b; simp)
instance : DecidableEq Wsh := fun a b => decidable_of_iff (a.kind = b.kind ∧ a.field = b.field ∧ a.value = b.value ∧ a.list = b.list ∧ a.pairs = b.pairs) (by cases a; cases b; simp)
instance : DecidableEq Nod := fun a b => decidable_of_iff (a.op = b.op ∧ a.wish = b.wish) (by cases a; cases b; simp)
instance : DecidableEq Rwt := fun a b => decidable_of_iff (a.rule = b.rule ∧ a.place = b.place ∧ a.after = b.after) (by cases a; cases b; simp)

def itemR : Rp Itm where
  sz := 2
  rep w x cs fp := ∃ v, cs = [.int .i64 x.id, v] ∧ Sl intR w v x.vals fp
  len h := by obtain ⟨v, rfl, _⟩ := h; rfl
  dom h := by obtain ⟨v, rfl, h⟩ := h; exact h.dom
  same h hs := by obtain ⟨v, rfl, h⟩ := h; exact ⟨v, rfl, h.same hs⟩
  one h := by
    obtain ⟨v, rfl, h⟩ := h
    obtain ⟨A, c, rfl, _⟩ := h.form
    simp [Value.oneCell']

def pairR : Rp (Int × Int) where
  sz := 2
  rep _ x cs fp := cs = [.int .i64 x.1, .int .i64 x.2] ∧ fp = []
  len h := by simp [h.1]
  dom h := by simp [h.2]
  same h _ := h
  one h := by simp [h.1, Value.oneCell']

def wishR : Rp Wsh where
  sz := 5
  rep w x cs fp := ∃ v u f1 f2, cs = [.int .i64 x.kind, .int .i64 x.field, .int .i64 x.value, v, u] ∧ fp = f1 ++ f2 ∧ Sl intR w v x.list f1 ∧ Sl pairR w u x.pairs f2
  len h := by obtain ⟨v, u, f1, f2, rfl, _⟩ := h; rfl
  dom h := by
    obtain ⟨v, u, f1, f2, rfl, rfl, h1, h2⟩ := h
    intro b hb
    rcases List.mem_append.1 hb with hb | hb
    · exact h1.dom b hb
    · exact h2.dom b hb
  same h hs := by
    obtain ⟨v, u, f1, f2, rfl, rfl, h1, h2⟩ := h
    exact ⟨v, u, f1, f2, rfl, rfl, h1.same fun b hb => hs b (List.mem_append.2 (.inl hb)), h2.same fun b hb => hs b (List.mem_append.2 (.inr hb))⟩
  one h := by
    obtain ⟨v, u, f1, f2, rfl, rfl, h1, h2⟩ := h
    obtain ⟨A, c, rfl, _⟩ := h1.form
    obtain ⟨A, c, rfl, _⟩ := h2.form
    simp [Value.oneCell']

def nodeR : Rp Nod where
  sz := 6
  rep w x cs fp := ∃ c, cs = .int .i64 x.op :: c ∧ wishR.rep w x.wish c fp
  len h := by obtain ⟨c, rfl, h⟩ := h; have := wishR.len h; simp [this, wishR]
  dom h := by obtain ⟨v, rfl, h⟩ := h; exact wishR.dom h
  same h hs := by obtain ⟨v, rfl, h⟩ := h; exact ⟨v, rfl, wishR.same h hs⟩
  one h := by
    obtain ⟨c, rfl, h⟩ := h
    intro v hv
    rcases List.mem_cons.1 hv with rfl | hv
    · rfl
    · exact wishR.one h v hv

def rewR : Rp Rwt where
  sz := 3
  rep w x cs fp := ∃ v, cs = [.int .i64 x.rule, .int .i64 x.place, v] ∧ Sl nodeR w v x.after fp
  len h := by obtain ⟨v, rfl, _⟩ := h; rfl
  dom h := by obtain ⟨v, rfl, h⟩ := h; exact h.dom
  same h hs := by obtain ⟨v, rfl, h⟩ := h; exact ⟨v, rfl, h.same hs⟩
  one h := by
    obtain ⟨v, rfl, h⟩ := h
    obtain ⟨A, c, rfl, _⟩ := h.form
    simp [Value.oneCell']
end Go.E

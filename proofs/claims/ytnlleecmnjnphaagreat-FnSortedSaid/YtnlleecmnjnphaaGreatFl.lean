/-
  The engine: rows whose elements are written out in their cells; clear. Conditions: none; every lemma is over any program.
-/
import Derived.Test.YtnlleecmnjnphaaGreatGk
import Derived.Test.YtnlleecmnjnphaaGreatMrk
set_option linter.unusedVariables false
set_option linter.unusedSimpArgs false
namespace Go.E
open Go Go.RowKit
set_option linter.unusedSectionVars false
/-- how elements of one size are written in cells -/
structure Flat (α : Type) where
  sz : Nat
  cf : α → List Value
  ok : α → Prop
  len : ∀ x, (cf x).length = sz
  one : ∀ x, ok x → ∀ v, v ∈ cf x → v.oneCell' = true
def Flat.R {α : Type} (F : Flat α) : Rp α where
  sz := F.sz
  rep _ x cs fp := F.ok x ∧ cs = F.cf x ∧ fp = []
  len h := by rw [h.2.1]; exact F.len _
  dom h := by rw [h.2.2]; simp
  same h _ := h
  one h := by rw [h.2.1]; exact F.one _ h.1
section
variable {α : Type} [Inhabited α] {F : Flat α} {w w' : World}
theorem Flat.rows {xs : List α} {cells : List Value} {fi : List Nat} : Rows F.R w xs cells fi ↔ (∀ x, x ∈ xs → F.ok x) ∧ cells = xs.flatMap F.cf ∧ fi = [] := by
  induction xs generalizing cells fi with
  | nil => simp only [Rows]; constructor <;> (rintro h; simp_all)
  | cons x r ih =>
    constructor
    · rintro ⟨c1, c2, f1, f2, rfl, rfl, ⟨h1, rfl, rfl⟩, h2⟩
      obtain ⟨h3, rfl, rfl⟩ := ih.1 h2
      exact ⟨fun y hy => (List.mem_cons.1 hy).elim (fun e => e ▸ h1) (h3 y), by rw [List.flatMap_cons], rfl⟩
    · rintro ⟨h1, rfl, rfl⟩
      exact ⟨F.cf x, r.flatMap F.cf, [], [], by rw [List.flatMap_cons], rfl, ⟨h1 x (by simp), rfl, rfl⟩, ih.2 ⟨fun y hy => h1 y (List.mem_cons_of_mem _ hy), rfl, rfl⟩⟩
theorem Flat.single {x : α} (h : F.ok x) : Rows F.R w [x] (F.cf x) [] := Rows.single ⟨h, rfl, rfl⟩
theorem Flat.fl_len (xs : List α) : (xs.flatMap F.cf).length = xs.length * F.sz := by
  induction xs with
  | nil => simp
  | cons x r ih => rw [List.flatMap_cons, List.length_append, ih, F.len, List.length_cons, Nat.succ_mul]; omega
theorem Flat.fl_at {pad : List Value} : ∀ {xs : List α} {k r : Nat} {u : Value}, k < xs.length → (F.cf (gi xs (k : Int)))[r]? = some u → (xs.flatMap F.cf ++ pad)[k * F.sz + r]? = some u := by
  intro xs
  induction xs with
  | nil => intro k r u h; simp at h
  | cons x r ih =>
    intro k j u hk hu
    rw [List.flatMap_cons, List.append_assoc]
    cases k with
    | zero =>
      have e : gi (x :: r) ((0 : Nat) : Int) = x := by simp [gi]
      rw [e] at hu
      rw [Nat.zero_mul, Nat.zero_add, List.getElem?_append_left (List.getElem?_eq_some_iff.1 hu).1, hu]
    | succ k =>
      have e : gi (x :: r) ((k + 1 : Nat) : Int) = gi r (k : Int) := by simp [gi]
      rw [e] at hu
      rw [List.getElem?_append_right (by rw [F.len, Nat.succ_mul]; omega), F.len, show (k + 1) * F.sz + j - F.sz = k * F.sz + j by rw [Nat.succ_mul]; omega]
      exact ih (by simpa using hk) hu
theorem Flat.fl_set {pad : List Value} {y : α} : ∀ {xs : List α} {k : Nat}, k < xs.length → (xs.flatMap F.cf ++ pad).take (k * F.sz) ++ F.cf y ++ (xs.flatMap F.cf ++ pad).drop (k * F.sz + F.sz) = (xs.set k y).flatMap F.cf ++ pad := by
  intro xs
  induction xs with
  | nil => intro k h; simp at h
  | cons x r ih =>
    intro k hk
    cases k with
    | zero =>
      simp only [Nat.zero_mul, List.take_zero, List.nil_append, Nat.zero_add, List.set_cons_zero, List.flatMap_cons, List.append_assoc]
      rw [List.drop_left' (F.len x)]
    | succ k =>
      have := ih (k := k) (by simpa using hk)
      simp only [List.set_cons_succ, List.flatMap_cons, List.append_assoc] at this ⊢
      rw [← this, show (k + 1) * F.sz = (F.cf x).length + k * F.sz by rw [F.len, Nat.succ_mul]; omega, show (F.cf x).length + k * F.sz + F.sz = (F.cf x).length + (k * F.sz + F.sz) by omega, List.take_length_add_append, List.drop_length_add_append]
      simp
theorem Flat.cells {b : Nat} {t : TypeId} {xs : List α} {pad : List Value} (hb : Blk w b t (xs.flatMap F.cf ++ pad)) {k : Nat} (hk : k < xs.length) : Cells w (ea (some ⟨b, 0, none⟩) F.sz (k : Int)) (F.cf (gi xs (k : Int))) := by
  refine ⟨_, ea_blk _ _ _ _, fun j u hu => ?_⟩
  rw [add_mk, hb.cell?, Nat.zero_add]
  exact Flat.fl_at hk hu
/-- an element of a slice that is read -/
theorem Flat.get {A : Option Addr} {n c : Nat} {xs : List α} {fp : List Nat} (h : Sl F.R w (.slice A n c) xs fp) {i : Int} (h0 : 0 ≤ i) (hi : i < n) : A.isSome = true ∧ F.ok (gi xs i) ∧ Cells w (ea A F.sz i) (F.cf (gi xs i)) := by
  obtain ⟨hA, cs, f, ⟨h1, rfl, _⟩, _, hc⟩ := h.get h0 hi
  exact ⟨hA, h1, hc⟩
theorem Flat.row {base : Nat} {el : TypeId} {v : Value} {xs : List α} {fi : List Nat} (h : OwnF F.R w base el v xs fi) : fi = [] ∧ (∀ x, x ∈ xs → F.ok x) ∧ ((v = .slice none 0 0 ∧ xs = []) ∨ ∃ b cap pad, v = .slice (some ⟨b, 0, none⟩) xs.length cap ∧ base ≤ b ∧ Blk w b el (xs.flatMap F.cf ++ pad) ∧ xs.length ≤ cap ∧ cap ≤ maxLen ∧ (xs.flatMap F.cf ++ pad).length = cap * F.sz) := by
  obtain ⟨⟨cells, ⟨hl, h1⟩, h2⟩, hf, hout⟩ := h
  obtain ⟨hok, rfl, rfl⟩ := Flat.rows.1 h2
  refine ⟨rfl, hok, ?_⟩
  rcases h1 with ⟨rfl, h0⟩ | ⟨g, cap, cur, rfl, hbase, hg, hle, hm, hcs, htk⟩
  · exact .inl ⟨rfl, List.eq_nil_of_length_eq_zero h0⟩
  · have e : xs.flatMap F.cf ++ cur.toList.drop (xs.length * F.sz) = cur.toList := by rw [← htk]; exact List.take_append_drop _ _
    refine .inr ⟨g, cap, cur.toList.drop (xs.length * F.sz), rfl, hbase, ?_, hle, hm, ?_⟩
    · rw [e]; simpa [Blk] using hg
    · rw [e]; have h3 : cur.size = cap * F.sz := hcs; simpa using h3
theorem Flat.ofRow {base : Nat} {el : TypeId} {b cap : Nat} {cs : List Value} {xs : List α} (hb : Blk w b el cs) (hbase : base ≤ b) (hok : ∀ x, x ∈ xs → F.ok x) (ht : cs.take (xs.length * F.sz) = xs.flatMap F.cf) (hle : xs.length ≤ cap) (hm : cap ≤ maxLen) (hcs : cs.length = cap * F.sz) :
    OwnF F.R w base el (.slice (some ⟨b, 0, none⟩) xs.length cap) xs [] :=
  have h3 : cs.toArray.size = cap * F.R.sz := by show cs.toArray.size = cap * F.sz; simpa using hcs
  have h4 : cs.toArray.toList.take (xs.length * F.R.sz) = xs.flatMap F.cf := ht
  ⟨⟨xs.flatMap F.cf, ⟨Flat.fl_len xs, .inr ⟨b, cap, cs.toArray, rfl, hbase, hb, hle, hm, h3, h4⟩⟩, Flat.rows.2 ⟨hok, rfl, rfl⟩⟩, Fresh.nil _ _, fun b hb => by simp⟩
end
theorem OwnF.wrs2 {α : Type} {R : Rp α} {w w' : World} {base : Nat} {el : TypeId} {v : Value} {xs : List α} (h : OwnF R w base el v xs []) {b : Nat} (k : Wrs w w' [b]) (hb : v.ownBlock ≠ some b) : OwnF R w' base el v xs [] := by
  obtain ⟨⟨cells, h1, h2⟩, hf, hout⟩ := h
  refine ⟨⟨cells, h1.kept (row := some b) ⟨k.os, k.tape, k.output, k.size, fun b' hb' hne => k.other b' hb' fun hm => hne (by simp at hm; rw [hm])⟩ ?_, h2.same fun b' hb' => by cases hb'⟩, Fresh.nil _ _, hout⟩
  cases hv : v.ownBlock with
  | none => exact .inl rfl
  | some b' => exact .inr (by rw [← hv]; exact hb)
theorem Upd.same {w : World} {b : Nat} {t : TypeId} {cs : List Value} (h : Blk w b t cs) : Upd w w b t cs := ⟨rfl, rfl, rfl, rfl, fun _ _ => rfl, h⟩
theorem o_clear {P : Program} {N : Nat} {ops : Array Oper} {Q : Post} {rest : List Oper} {e : Env} {w : World} {t el tt : TypeId} {sz bytes : Nat} {zc : List Value} {g : Option (Nat × Bool)} {x : Operand} {ty : TypeId} {pos : String} {af : Array Edge} [ht : SliceT P t el] [he : ElemT P el sz bytes zc] {b off n c : Nat} {cs : List Value}
    (hg : gd ops e g = some true) (hx : ev e x = some (.slice (some ⟨b, off, none⟩) n c)) (hz1 : ∀ u, u ∈ zc → u.oneCell' = true) (hb : Blk w b tt cs) (ho : off + n * sz ≤ cs.length)
    (kk : ∀ w' cs', Upd w w' b tt cs' → cs'.length = cs.length → cs'.take off = cs.take off → WL P N ops Q rest e w') :
    WL P N ops Q (⟨none, .call ⟨.builtin .clear, #[x], #[t]⟩, ty, pos, af, g⟩ :: rest) e w := by
  obtain ⟨zv, hzv, hzc⟩ := run_zero (P := P) he w
  have hzl : zc.length = sz := he.l
  by_cases hn : n = 0
  · subst hn
    refine WL_val (o := ⟨none, .call ⟨.builtin .clear, #[x], #[t]⟩, ty, pos, af, g⟩) (w' := w) (v := .tuple #[]) hg rfl (fun a ha => ?_) (kk w cs (Upd.same hb) rfl rfl)
    simp [execOp, resolve, ha.ev hx, Deferred.ofValue, invoke, builtin, Builtin.clear_, underlying, run_program, ht.u]
  · have hpos : 0 < n := by omega
    let zs : List Value := (Builtin.zeroCells zv.cells n).toList
    have hzs : zs.length = n * sz := by simp [zs, Builtin.zeroCells, hzc, hzl]
    have hmem : ∀ u, u ∈ zs → u ∈ zc := by
      intro u hu
      simp only [zs, Builtin.zeroCells, hzc, Array.toList_map, List.mem_map, Array.toList_range, List.mem_range] at hu
      obtain ⟨i, hi, rfl⟩ := hu
      have hp : 0 < sz := by
        rcases Nat.eq_zero_or_pos sz with h | h
        · subst h; simp [hzl] at hi
        · exact h
      have hlt : i % zc.toArray.size < zc.toArray.size := Nat.mod_lt _ (by simp; omega)
      rw [getElem!_pos zc.toArray _ hlt]
      simp
    refine WL_val (o := ⟨none, .call ⟨.builtin .clear, #[x], #[t]⟩, ty, pos, af, g⟩) (w' := w.setRow b (cs.take off ++ zs ++ cs.drop (off + zs.length)).toArray) (v := .tuple #[]) hg rfl (fun a ha => ?_) (kk _ _ (upd_setRow hb _) (by simp only [List.length_append, List.length_take, List.length_drop, hzs]; omega) (by rw [List.append_assoc, List.take_append_of_le_length (by rw [List.length_take]; omega), List.take_take, Nat.min_self]))
    have hst := run_storeCells_at (P := P) b off tt zs 0 cs.toArray w hb (by simp [hzs]; omega) (fun v hv => hz1 v (hmem v hv))
    simp at hst
    obtain ⟨m, rfl⟩ : ∃ m, n = m + 1 := ⟨n - 1, by omega⟩
    simp [execOp, resolve, ha.ev hx, Deferred.ofValue, invoke, builtin, Builtin.clear_, underlying, run_program, ht.u, hzv, zs] at hst ⊢
    simp [hst]
end Go.E

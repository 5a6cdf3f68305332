/-
  The engine, part four: stores, new slices, struct values, reslicing, append. Conditions: none; every lemma is over any program.
-/
import Derived.Test.YtdenoambgonomaaMem
import Derived.Maps.AppendAt
set_option linter.unusedVariables false
set_option linter.unusedSimpArgs false
namespace Go.E
open Go Go.RowKit

theorem one_cells {v : Value} (h : v.oneCell' = true) : v.cells = #[v] := by
  cases v <;> simp_all [Value.oneCell', Value.cells]

theorem upd_setRow {w : World} {b : Nat} {t : TypeId} {cs : List Value} (hb : Blk w b t cs) (cs' : List Value) : Upd w (w.setRow b cs'.toArray) b t cs' :=
  ⟨rfl, rfl, rfl, by simp, fun k hk => setRow_other w b k _ hk, setRow_heap w b _ _ t _ hb⟩

theorem Upd.below {w w' : World} {b : Nat} {t : TypeId} {cs : List Value} (h : Upd w w' b t cs) {B : Nat} (hb : B ≤ b) : Below B w w' :=
  ⟨h.os, h.tape, h.output, by rw [h.size]; exact Nat.le_refl _, fun k hk => h.other k (by omega)⟩
/-- a write into a block that was not there when the old world was -/
theorem Keep.upd {w0 w w' : World} {b : Nat} {t : TypeId} {cs : List Value} (h : Keep w0 w) (k : Upd w w' b t cs) (hb : w0.heap.size ≤ b) : Keep w0 w' :=
  Below.trans h (k.below hb)

theorem ea_some {A : Option Addr} {sz : Nat} {i : Int} (h : A.isSome = true) : (ea A sz i).isSome = true := by simpa [ea] using h
theorem fa_some {p : Option Addr} {o : Nat} (h : p.isSome = true) : (fa p o).isSome = true := by simpa [fa] using h
theorem Cells.at_ {w : World} {p : Option Addr} {vs : List Value} (h : Cells w p vs) {j : Nat} {v : Value} (hv : vs[j]? = some v) : Cell w (fa p j) v := by
  obtain ⟨ad, rfl, hc⟩ := h
  exact ⟨_, rfl, hc j v hv⟩
theorem ones_nil : ∀ v : Value, v ∈ ([] : List Value) → v.oneCell' = true := fun v hv => by cases hv
theorem ones_cons {u : Value} {us : List Value} (h : u.oneCell' = true) (k : ∀ v : Value, v ∈ us → v.oneCell' = true) : ∀ v : Value, v ∈ u :: us → v.oneCell' = true := fun v hv => by
  rcases List.mem_cons.1 hv with rfl | hv
  · exact h
  · exact k v hv
theorem fa_fa (p : Option Addr) (a b : Nat) : fa (fa p a) b = fa p (a + b) := by
  cases p with
  | none => rfl
  | some ad => simp [fa, add_add]
theorem Cells.at2 {w : World} {p : Option Addr} {vs : List Value} (h : Cells w p vs) {i j : Nat} {v : Value} (hv : vs[i + j]? = some v) : Cell w (fa (fa p i) j) v := by
  rw [fa_fa]; exact h.at_ hv
theorem Blk.at2 {w : World} {b : Nat} {t : TypeId} {cs : List Value} (h : Blk w b t cs) {i j : Nat} {v : Value} (hv : cs[i + j]? = some v) : Cell w (fa (fa (some ⟨b, 0, none⟩) i) j) v := by
  rw [fa_fa]; exact h.fcell hv
theorem Cells.tail1 {w : World} {p : Option Addr} {v : Value} {vs : List Value} (h : Cells w p (v :: vs)) : Cells w (fa p 1) vs := by
  obtain ⟨ad, rfl, hc⟩ := h
  exact ⟨_, rfl, fun j u hu => by rw [add_add, Nat.add_comm]; exact hc (j + 1) u hu⟩
theorem Blk.tail1 {w : World} {b : Nat} {t : TypeId} {v : Value} {vs : List Value} (h : Blk w b t (v :: vs)) : Cells w (fa (some ⟨b, 0, none⟩) 1) vs := h.cells.tail1
theorem ea_blk (b o sz : Nat) (k : Nat) : ea (some ⟨b, o, none⟩) sz (k : Int) = some ⟨b, o + k * sz, none⟩ := by simp [ea, add_mk]
theorem fa_blk (b o f : Nat) : fa (some ⟨b, o, none⟩) f = some ⟨b, o + f, none⟩ := by simp [fa, add_mk]

section ops
variable {P : Program} {N : Nat} {ops : Array Oper} {Q : Post} {rest : List Oper} {e : Env} {w : World}
  {dst : Option Tmp} {ty : TypeId} {pos : String} {af : Array Edge} {g : Option (Nat × Bool)} {x y z : Operand} {t el : TypeId} {sz bytes : Nat} {zc : List Value} {p : Option Addr} {d : Tmp}

theorem o_store1 [he : ElemT P t 1 bytes zc] {b off : Nat} {cs : List Value} {tt : TypeId} {v : Value} (hg : gd ops e g = some true) (hx : ev e x = some (.pointer p)) (hp : p = some ⟨b, off, none⟩) (hy : ev e y = some v)
    (h1 : v.oneCell' = true) (hb : Blk w b tt cs) (ho : off < cs.length) (kk : ∀ w', Upd w w' b tt (cs.set off v) → WL P N ops Q rest e w') :
    WL P N ops Q (⟨none, .store t x y, ty, pos, af, g⟩ :: rest) e w := by
  subst hp
  refine WL_unit (o := ⟨none, .store t x y, ty, pos, af, g⟩) (w' := w.setRow b (cs.set off v).toArray) hg rfl (fun a ha => ?_) (kk _ (upd_setRow hb _))
  have := run_storeCells_at (P := P) b off tt [v] 0 cs.toArray w hb (by simp; omega) (by simpa using h1)
  have e1 : (cs.toArray.toList.take (off + 0) ++ [v] ++ cs.toArray.toList.drop (off + 0 + [v].length)) = cs.set off v := by
    simp [List.set_eq_take_append_cons_drop, ho]
  rw [e1] at this
  simp [execOp, ha.ev hx, ha.ev hy, Instr.storeAt, Instr.sureAddr, storeVar, one_cells h1, run_sizeOf he, this]

theorem o_storeS [he : ElemT P t sz bytes zc] {b off : Nat} {cs vs : List Value} {tt : TypeId} (hg : gd ops e g = some true) (hx : ev e x = some (.pointer p)) (hp : p = some ⟨b, off, none⟩) (hy : ev e y = some (.agg vs.toArray))
    (h1 : ∀ v, v ∈ vs → v.oneCell' = true) (hl : vs.length = sz) (hb : Blk w b tt cs) (ho : off + sz ≤ cs.length) (kk : ∀ w', Upd w w' b tt (cs.take off ++ vs ++ cs.drop (off + sz)) → WL P N ops Q rest e w') :
    WL P N ops Q (⟨none, .store t x y, ty, pos, af, g⟩ :: rest) e w := by
  subst hp; subst hl
  refine WL_unit (o := ⟨none, .store t x y, ty, pos, af, g⟩) (w' := w.setRow b (cs.take off ++ vs ++ cs.drop (off + vs.length)).toArray) hg rfl (fun a ha => ?_) (kk _ (upd_setRow hb _))
  have := run_storeCells_at (P := P) b off tt vs 0 cs.toArray w hb (by simp; omega) h1
  simp at this
  simp [execOp, ha.ev hx, ha.ev hy, Instr.storeAt, Instr.sureAddr, storeVar, Value.cells, run_sizeOf he, this]

/-! slices of a given length -/
theorem o_makeSlice [ht : SliceT P t el] [he : ElemT P el sz bytes zc] {k k' : IntKind} {l c : Nat} (hg : gd ops e g = some true) (hd : Nat.blt d N = true) (hx : ev e x = some (.int k l)) (hy : ev e y = some (.int k' c))
    (hlc : l ≤ c) (hc : c * bytes ≤ 140737488355328) (hc2 : c ≤ 9223372036854775807)
    (kk : ∀ b w' zs, Al w w' b el zs → zs.length = c * sz → (∀ u, u ∈ zs → u ∈ zc) → WL P N ops Q rest ((d, .slice (some ⟨b, 0, none⟩) l c) :: e) w') :
    WL P N ops Q (⟨some d, .makeSlice t x y, ty, pos, af, g⟩ :: rest) e w := by
  have hzl : zc.length = sz := he.l
  let zs : List Value := ((Array.range (c * sz)).map (zc.toArray[· % zc.toArray.size]!)).toList
  have hzs : zs.length = c * sz := by simp [zs]
  have hmem : ∀ u, u ∈ zs → u ∈ zc := by
    intro u hu
    simp only [zs, Array.toList_map, List.mem_map, Array.toList_range, List.mem_range] at hu
    obtain ⟨i, hi, rfl⟩ := hu
    have hpos : 0 < sz := by
      rcases Nat.eq_zero_or_pos sz with h | h
      · subst h; simp at hi
      · exact h
    have hlt : i % zc.toArray.size < zc.toArray.size := Nat.mod_lt _ (by simp; omega)
    rw [getElem!_pos zc.toArray _ hlt]
    simp
  refine WL_val (o := ⟨some d, .makeSlice t x y, ty, pos, af, g⟩) (w' := w.alloc (.cells zs.toArray el)) (v := .slice (some ⟨w.heap.size, 0, none⟩) l c) hg hd (fun a ha => ?_) (kk _ _ zs ⟨rfl, rfl⟩ hzs hmem)
  obtain ⟨i, zv, hi, h1, h2, h3, h4⟩ := he.get
  have hwl : IntKind.i64.wrap (l : Int) = l := wrap_i64 (by omega) (by omega)
  have hwc : IntKind.i64.wrap (c : Int) = c := wrap_i64 (by omega) (by omega)
  have hb : ¬ ((bytes : Int) * c > 2 ^ 48) := by
    have : (bytes : Int) * c = ((c * bytes : Nat) : Int) := by rw [Int.mul_comm]; simp
    rw [this]; omega
  have hroom : ¬ (c * bytes > roomBytes) := by simp only [roomBytes]; omega
  have hz : (if c * sz = 0 then (pure #[] : Sem (Array Value)) else do pure (← zeroValue el).cells).run P w = .ok (if c * sz = 0 then #[] else zc.toArray) w := by
    split
    · rfl
    · simp [zeroValue, typeInfo, run_program, hi, h3, h4]
  simp only [execOp, ha.ev hx, ha.ev hy, Instr.makeSlice, asInt, asIntOf, underlying, run_program, ht.u, typeInfo, hi, h2, hwl, hwc, Sem.run_bind, Sem.run_pure, Result.andThen_ok, run_sizeOf he, Int.toNat_natCast, askRoom]
  have hb' : (bytes : Int) * (c : Int) ≤ 281474976710656 := by omega
  have c1 : (decide ((c : Int) < 0) || decide ((bytes : Int) * (c : Int) > 2 ^ 48)) = false := by simp; exact hb'
  have c2 : decide ((l : Int) < 0) = false := by simp
  have c3 : decide ((l : Int) > (c : Int)) = false := by simp; omega
  have hnew : ∀ (cs : Array Value), (newRow el cs).run P w = .ok ⟨w.heap.size, 0, none⟩ (w.alloc (.cells cs el)) := fun cs => by simp [newRow, run_newObj]
  simp only [c1, c2, c3, Bool.or_false, Bool.false_or, Bool.false_eq_true, if_false, Sem.run_bind, Sem.run_pure, Result.andThen_ok, if_neg hroom, run_sizeOf he]
  by_cases h0 : c * sz = 0
  · simp only [h0, if_true, Sem.run_bind, Sem.run_pure, Result.andThen_ok, hnew]
    have : zs = [] := List.eq_nil_of_length_eq_zero (by omega)
    have h00 : ∀ f : Nat → Value, Array.map f (Array.range 0) = #[] := fun f => Array.eq_empty_of_size_eq_zero (by simp)
    rw [this, h00]
  · simp only [h0, if_false, Sem.run_bind, Sem.run_pure, Result.andThen_ok, hnew, zeroValue, typeInfo, run_program, hi, h3, h4]
    rfl

theorem foldl_splice : ∀ (l : List Value) (j0 off : Nat) (cells : Array Value), off + j0 + l.length ≤ cells.size →
    (l.zipIdx j0).foldl (fun cs (p : Value × Nat) => cs.setIfInBounds (off + p.2) p.1) cells = (cells.toList.take (off + j0) ++ l ++ cells.toList.drop (off + j0 + l.length)).toArray
  | [], j0, off, cells, _ => by simp
  | v :: r, j0, off, cells, h => by
    simp only [List.length_cons] at h
    rw [List.zipIdx_cons, List.foldl_cons, foldl_splice r (j0 + 1) off _ (by simp; omega)]
    congr 1
    have hlt : off + j0 < cells.toList.length := by simp; omega
    have hset : (cells.setIfInBounds (off + j0) v).toList = cells.toList.take (off + j0) ++ v :: cells.toList.drop (off + j0 + 1) := by
      rw [Array.toList_setIfInBounds, List.set_eq_take_append_cons_drop, if_pos hlt]
    have hl : (cells.toList.take (off + j0)).length = off + j0 := by rw [List.length_take]; omega
    have e1 : (cells.setIfInBounds (off + j0) v).toList.take (off + (j0 + 1)) = cells.toList.take (off + j0) ++ [v] := by
      rw [hset, List.take_append, hl, show off + (j0 + 1) - (off + j0) = 1 by omega, List.take_of_length_le (by omega)]; rfl
    have e2 : (cells.setIfInBounds (off + j0) v).toList.drop (off + (j0 + 1) + r.length) = cells.toList.drop (off + j0 + (v :: r).length) := by
      rw [hset, List.drop_append, hl, List.drop_of_length_le (by omega), List.nil_append, show off + (j0 + 1) + r.length - (off + j0) = r.length + 1 by omega, List.drop_succ_cons, List.drop_drop]
      congr 1; simp only [List.length_cons]; omega
    rw [e1, e2, List.append_assoc, List.append_assoc, List.append_assoc]; rfl

/-- places in order, from a number on -/
def inOrder {α : Type} : Nat → List (Nat × α) → Bool
  | _, [] => true
  | i, (k, _) :: r => Nat.beq k i && inOrder (i + 1) r

theorem fill_row (sz : Nat) : ∀ (ps : List (Nat × Value)) (k : Nat) (cells : Array Value), inOrder k ps = true → (∀ p, p ∈ ps → p.2.cells.size = sz) → (k + ps.length) * sz ≤ cells.size →
    Instr.fill (fun i => some (i * sz, sz)) cells ps = some (cells.toList.take (k * sz) ++ ps.flatMap (fun p => p.2.cells.toList) ++ cells.toList.drop ((k + ps.length) * sz)).toArray
  | [], k, cells, _, _, _ => by simp [Instr.fill]
  | (i, v) :: r, k, cells, ho, hs, hl => by
    simp only [inOrder, Bool.and_eq_true] at ho
    have hi : i = k := Nat.eq_of_beq_eq_true ho.1
    subst hi
    have hv : v.cells.size = sz := hs (i, v) (List.mem_cons_self ..)
    simp only [List.length_cons] at hl
    have hle : i * sz + sz ≤ cells.size := by
      have : (i + 1) * sz ≤ (i + (r.length + 1)) * sz := Nat.mul_le_mul_right _ (by omega)
      rw [Nat.succ_mul] at this; omega
    have hfold : v.cells.zipIdx.foldl (fun cs (p : Value × Nat) => cs.setIfInBounds (i * sz + p.2) p.1) cells = (cells.toList.take (i * sz) ++ v.cells.toList ++ cells.toList.drop (i * sz + sz)).toArray := by
      have := foldl_splice v.cells.toList 0 (i * sz) cells (by simp [hv]; exact hle)
      rw [← Array.foldl_toList, Array.toList_zipIdx]
      simpa [hv] using this
    simp only [Instr.fill, hv, ne_eq, not_true_eq_false, decide_false, Bool.false_or, decide_eq_true_eq, show ¬ (i * sz + sz > cells.size) by omega, if_false]
    have ih := fill_row sz r (i + 1) (cells.toList.take (i * sz) ++ v.cells.toList ++ cells.toList.drop (i * sz + sz)).toArray ho.2 (fun p hp => hs p (List.mem_cons_of_mem _ hp)) (by
      simp [hv]
      have : (i + 1 + r.length) * sz = (i + (r.length + 1)) * sz := by congr 1; omega
      rw [this]; omega)
    have hA : (cells.toList.take (i * sz)).length = i * sz := by rw [List.length_take]; simp; omega
    have hV : v.cells.toList.length = sz := by simpa using hv
    have e1 : (cells.toList.take (i * sz) ++ v.cells.toList ++ cells.toList.drop (i * sz + sz)).take ((i + 1) * sz) = cells.toList.take (i * sz) ++ v.cells.toList := by
      rw [List.take_append, List.length_append, hA, hV, show (i + 1) * sz - (i * sz + sz) = 0 by rw [Nat.succ_mul]; omega, List.take_zero, List.append_nil, List.take_of_length_le (by rw [List.length_append, hA, hV, Nat.succ_mul]; omega)]
    have e2 : (cells.toList.take (i * sz) ++ v.cells.toList ++ cells.toList.drop (i * sz + sz)).drop ((i + 1 + r.length) * sz) = cells.toList.drop ((i + (r.length + 1)) * sz) := by
      have hm : (i + 1 + r.length) * sz = i * sz + sz + r.length * sz := by rw [Nat.add_mul, Nat.succ_mul]
      have hm2 : (i + (r.length + 1)) * sz = i * sz + sz + r.length * sz := by rw [← hm]; congr 1; omega
      rw [List.drop_append, List.length_append, hA, hV, hm, hm2, List.drop_of_length_le (by rw [List.length_append, hA, hV]; omega), List.nil_append, List.drop_drop]
      congr 1; omega
    have key : Instr.fill (fun i => some (i * sz, sz)) (v.cells.zipIdx.foldl (fun cs (p : Value × Nat) => cs.setIfInBounds (i * sz + p.2) p.1) cells) r = some (cells.toList.take (i * sz) ++ List.flatMap (fun p => p.2.cells.toList) ((i, v) :: r) ++ cells.toList.drop ((i + ((i, v) :: r).length) * sz)).toArray := by
      simp only [List.toList_toArray] at ih
      rw [e1, e2] at ih
      rw [hfold, ih]
      simp only [List.flatMap_cons, List.append_assoc, List.length_cons]
    exact key

def evp (e : Env) : List (Nat × Operand) → Option (List (Nat × Value))
  | [] => some []
  | (i, x) :: r => match ev e x with
    | none => none
    | some v => match evp e r with
      | none => none
      | some vs => some ((i, v) :: vs)

theorem _root_.Go.E.Sat.evp {N : Nat} {e : Env} {a : Act} (h : Sat N e a) : ∀ {xs : List (Nat × Operand)} {vs : List (Nat × Value)}, E.evp e xs = some vs → xs.map (fun p => (p.1, a.eval p.2)) = vs
  | [], vs, hv => by simp only [E.evp, Option.some.injEq] at hv; simp [hv]
  | (i, x) :: r, vs, hv => by
    simp only [E.evp] at hv
    cases hx : E.ev e x with
    | none => rw [hx] at hv; cases hv
    | some v =>
      rw [hx] at hv
      simp only at hv
      cases hr : E.evp e r with
      | none => rw [hr] at hv; cases hv
      | some us =>
        rw [hr] at hv
        simp only [Option.some.injEq] at hv
        rw [← hv, List.map_cons, h.ev hx, h.evp hr]

theorem o_buildSlice [ht : SliceT P t el] [he : ElemT P el sz bytes zc] {n : Nat} {ps : List (Nat × Operand)} {vs : List (Nat × Value)} (hg : gd ops e g = some true) (hd : Nat.blt d N = true)
    (hx : evp e ps = some vs) (hord : inOrder 0 vs = true) (hn : vs.length = n) (hs : ∀ p, p ∈ vs → p.2.cells.size = sz) (hsm : n * sz ≤ 16777216)
    (kk : ∀ b w', Al w w' b el (vs.flatMap fun p => p.2.cells.toList) → WL P N ops Q rest ((d, .slice (some ⟨b, 0, none⟩) n n) :: e) w') :
    WL P N ops Q (⟨some d, .buildSlice t n ps.toArray, ty, pos, af, g⟩ :: rest) e w := by
  refine WL_val (o := ⟨some d, .buildSlice t n ps.toArray, ty, pos, af, g⟩) (w' := w.alloc (.cells (vs.flatMap fun p => p.2.cells.toList).toArray el)) (v := .slice (some ⟨w.heap.size, 0, none⟩) n n) hg hd (fun a ha => ?_) (kk _ _ ⟨rfl, rfl⟩)
  have hps := ha.evp hx
  have hzl : zc.length = sz := he.l
  obtain ⟨i, zv, hi, h1, h2, h3, h4⟩ := he.get
  have hnew : ∀ (cs : Array Value), (newRow el cs).run P w = .ok ⟨w.heap.size, 0, none⟩ (w.alloc (.cells cs el)) := fun cs => by simp [newRow, run_newObj]
  have hpa : ps.toArray.map (fun p => (p.1, a.eval p.2)) = vs.toArray := by simp [hps]
  have hfill : ∀ cells : Array Value, cells.size = n * sz → Instr.fill (fun i => some (i * sz, sz)) cells vs = some (vs.flatMap fun p => p.2.cells.toList).toArray := fun cells hc => by
    rw [fill_row sz vs 0 cells hord hs (by rw [Nat.zero_add, hn]; omega)]
    congr 2
    rw [Nat.zero_mul, List.take_zero, List.nil_append, Nat.zero_add, hn, List.drop_of_length_le (by simp; omega), List.append_nil]
  simp only [execOp, Instr.buildSlice, Sem.run_bind, Sem.run_pure, Result.andThen_ok, underlying, run_program, ht.u, run_sizeOf he, if_neg (show ¬ (n * sz > 2 ^ 24) by omega)]
  by_cases h0 : n * sz = 0
  · have h00 : ∀ f : Nat → Value, Array.map f (Array.range 0) = #[] := fun f => Array.eq_empty_of_size_eq_zero (by simp)
    simp only [h0, if_true, Sem.run_bind, Sem.run_pure, Result.andThen_ok, hpa, List.toList_toArray, h00]
    rw [hfill #[] (by simp [h0])]
    simp [hnew]
  · simp only [h0, if_false, Sem.run_bind, Sem.run_pure, Result.andThen_ok, zeroValue, typeInfo, run_program, hi, h3, h4, hpa, List.toList_toArray]
    rw [hfill _ (by simp)]
    simp [hnew]

/-! struct values -/
theorem o_build {ps : List (Nat × Operand)} {vs : List (Nat × Value)} {cs : List Value} (hx : evp e ps = some vs) (hb : ∀ w, (Instr.build t vs.toArray).run P w = .ok (.agg cs.toArray) w) :
    PureOp P N e w ⟨dst, .build t ps.toArray, ty, pos, af, g⟩ (.agg cs.toArray) := fun a ha => by
  have hps := ha.evp hx
  have hpa : ps.toArray.map (fun p => (p.1, a.eval p.2)) = vs.toArray := by simp [hps]
  simp only [execOp, Sem.run_bind, hpa, hb, Result.andThen_ok, Sem.run_pure]

def fillL (pl : List (Nat × Nat)) (cells : List Value) : List (Nat × Value) → Option (List Value)
  | [] => some cells
  | (i, v) :: r => match pl[i]? with
    | none => none
    | some (off, size) => if v.cells.toList.length = size ∧ off + v.cells.toList.length ≤ cells.length then fillL pl (cells.take off ++ v.cells.toList ++ cells.drop (off + v.cells.toList.length)) r else none
theorem fill_eq (pl : List (Nat × Nat)) : ∀ (vs : List (Nat × Value)) (cells cs : List Value), fillL pl cells vs = some cs → Instr.fill (fun i => pl[i]?) cells.toArray vs = some cs.toArray
  | [], cells, cs, h => by
    simp only [fillL, Option.some.injEq] at h
    simp [Instr.fill, h]
  | (i, v) :: r, cells, cs, h => by
    simp only [fillL] at h
    cases hp : pl[i]? with
    | none => simp [hp] at h
    | some q =>
      obtain ⟨off, size⟩ := q
      simp only [hp] at h
      split at h
      · rename_i hc
        have ih := fill_eq pl r _ cs h
        have hf := foldl_splice v.cells.toList 0 off cells.toArray (by simpa using hc.2)
        simp only [Instr.fill, hp]
        rw [if_neg (by simp; exact ⟨by simpa using hc.1, by simpa using hc.2⟩)]
        rw [← ih, ← Array.foldl_toList, Array.toList_zipIdx]
        congr 1
      · cases h
theorem run_places (w : World) : ∀ (fs : List Field) (pl : List (Nat × Nat)), fs.map (fun f => (P.info? f.type).map fun i => (f.offset, i.size)) = pl.map some →
    (fs.mapM fun f => do pure (f.offset, ← sizeOf f.type) : Sem (List (Nat × Nat))).run P w = .ok pl w
  | [], pl, h => by
    cases pl with
    | nil => rfl
    | cons p r => simp at h
  | f :: r, pl, h => by
    cases pl with
    | nil => simp at h
    | cons p q =>
      simp only [List.map_cons, List.cons.injEq] at h
      have ih := run_places w r q h.2
      cases hi : P.info? f.type with
      | none => simp [hi] at h
      | some i =>
        simp only [hi, Option.map_some, Option.some.injEq] at h
        have hsz : (sizeOf f.type).run P w = .ok i.size w := by simp [sizeOf, typeInfo, run_program, hi]
        simp only [List.mapM_cons, Sem.run_bind, Sem.run_pure, Result.andThen_ok, hsz, ih]
        rw [h.1]
theorem o_buildT {pl : List (Nat × Nat)} [he : ElemT P t sz bytes zc] [hs : StructT P t pl] {ps : List (Nat × Operand)} {vs : List (Nat × Value)} {cs : List Value} (hx : evp e ps = some vs) (hb : fillL pl zc vs = some cs) :
    PureOp P N e w ⟨dst, .build t ps.toArray, ty, pos, af, g⟩ (.agg cs.toArray) :=
  o_build hx fun w' => by
    have := hs.u
    cases hu : P.underlying t with
    | none => simp [hu] at this
    | some d =>
      cases d with
      | struct fs =>
        simp only [hu, decide_eq_true_eq] at this
        obtain ⟨zv, hz, hzc⟩ := run_zero (P := P) he w'
        have hm := run_places (P := P) w' fs.toList pl this
        have hfs : fs = fs.toList.toArray := by simp
        simp only [Instr.build, Sem.run_bind, hz, Result.andThen_ok, underlying, run_program, hu, Sem.run_pure]
        rw [hfs, List.mapM_toArray]
        simp only [Sem.run_map, hm, Sem.run_bind, Result.andThen_ok, Sem.run_pure, hzc]
        have := fill_eq pl vs zc cs hb
        simp [this]
      | _ => simp [hu] at this

theorem o_boxS {vs : List Value} (hg : gd ops e g = some true) (hd : Nat.blt d N = true) (hx : ev e x = some (.agg vs.toArray))
    (kk : ∀ b w', Al w w' b t vs → WL P N ops Q rest ((d, .pointer (some ⟨b, 0, none⟩)) :: e) w') : WL P N ops Q (⟨some d, .box t x, ty, pos, af, g⟩ :: rest) e w :=
  o_box hg hd hx fun b w' h => kk b w' ⟨h.b_eq, by rw [h.w_eq]; simp [Value.cells]⟩

/-! reslicing -/
section sl
variable {A : Option Addr} {n c h l : Nat} {k k' : IntKind} {hi lo : Operand}
theorem o_slice_hi [ht : SliceT P t el] [he : ElemT P el sz bytes zc] (hx : ev e x = some (.slice A n c)) (hy : ev e hi = some (.int k (h : Nat))) (hc : h ≤ c) :
    PureOp P N e w ⟨dst, .slice t x none (some hi) none, ty, pos, af, g⟩ (.slice A h c) := fun a ha => by
  have h1 : (h : Int) ≤ c := by omega
  have h2 : (A.map (·.add 0)) = A := by cases A <;> simp [Addr.add]
  simp [execOp, Instr.sliceAt, underlying, run_program, ht.u, ha.ev hx, ha.ev hy, Instr.slice, Instr.sliceBounds, Instr.sliceBound, asIntOf, h1, run_sizeOf he, h2]
  intro hh; omega
theorem o_slice_lo [ht : SliceT P t el] [he : ElemT P el sz bytes zc] (hx : ev e x = some (.slice A n c)) (hy : ev e lo = some (.int k (l : Nat))) (hl : l ≤ n) :
    PureOp P N e w ⟨dst, .slice t x (some lo) none none, ty, pos, af, g⟩ (.slice (if c = l then A else A.map (·.add (l * sz))) (n - l) (c - l)) := fun a ha => by
  have h1 : (l : Int) ≤ n := by omega
  simp [execOp, Instr.sliceAt, underlying, run_program, ht.u, ha.ev hx, ha.ev hy, Instr.slice, Instr.sliceBounds, Instr.sliceBound, asIntOf, h1, run_sizeOf he]
  intro hh; omega
theorem o_slice_lh [ht : SliceT P t el] [he : ElemT P el sz bytes zc] (hx : ev e x = some (.slice A n c)) (hy : ev e lo = some (.int k (l : Nat))) (hz : ev e hi = some (.int k' (h : Nat))) (hl : l ≤ h) (hc : h ≤ c) :
    PureOp P N e w ⟨dst, .slice t x (some lo) (some hi) none, ty, pos, af, g⟩ (.slice (if c = l then A else A.map (·.add (l * sz))) (h - l) (c - l)) := fun a ha => by
  have h1 : (l : Int) ≤ h := by omega
  have h2 : (h : Int) ≤ c := by omega
  simp [execOp, Instr.sliceAt, underlying, run_program, ht.u, ha.ev hx, ha.ev hy, ha.ev hz, Instr.slice, Instr.sliceBounds, Instr.sliceBound, asIntOf, h1, h2, run_sizeOf he]
  rw [if_pos hc, if_pos hl]
end sl
end ops

/-! a result that lies in memory -/
theorem retc {P : Program} {N : Nat} {fn : Func} {R : Value → World → Prop} {e : Env} {w : World} {a : Tmp} {t : TypeId} {p : Option Addr} {sz bytes : Nat} {zc vs : List Value} [ht : AggT P t] [he : ElemT P t sz bytes zc]
    (hr : fn.results = #[.cell a t]) (ha : find e a = some (.pointer p)) (hc : Cells w p vs) (hl : vs.length = sz) (h : R (.agg vs.toArray) w) : retQ P N fn R .ret e w :=
  ⟨_, fun ac hs => by
    obtain ⟨ad, rfl, hv⟩ := hc
    subst hl
    have := run_loadCells_list (P := P) w ad vs hv
    simp only [results, hr, List.mapM_toArray, List.mapM_cons, List.mapM_nil, Sem.run_bind, Sem.run_pure, Result.andThen_ok, (hs.val a _ ha).2, asAddr, loadVar, run_isAgg_t ht, run_sizeOf he, if_true, this]
    simp [loadVar, run_isAgg_t ht, run_sizeOf he, this, asAddr], h⟩

/-! ### Slices of one's own, and append -/

/-- the slice value v is the call's own, from block base on, and reads as xs; fi: what lies behind its elements -/
def Own {α : Type} (R : Rp α) (w : World) (base : Nat) (el : TypeId) (v : Value) (xs : List α) (fi : List Nat) : Prop :=
  ∃ cells, w.ownsRow base el R.sz v xs.length cells ∧ Rows R w xs cells fi

/-- what an append copies -/
def Src {α : Type} (R : Rp α) (w : World) (A : Option Addr) (ys : List α) (gi : List Nat) : Prop :=
  ∃ news, Rows R w ys news gi ∧ (news = [] ∧ ys = [] ∨ ∃ ad, A = some ad ∧ ∀ j u, news[j]? = some u → w.cell? (ad.add j) = some u)

section own
variable {α : Type} {R : Rp α} {w w' : World} {base : Nat} {el : TypeId} {v : Value} {xs ys : List α} {fi gi : List Nat}
theorem Own.lt (h : Own R w base el v xs fi) {b : Nat} (hb : v.ownBlock = some b) : base ≤ b ∧ b < w.heap.size := by
  obtain ⟨cells, h1, _⟩ := h
  exact h1.lt b hb
theorem Own.dom (h : Own R w base el v xs fi) : ∀ b, b ∈ fi → b < w.heap.size := by
  obtain ⟨cells, _, h2⟩ := h
  exact h2.dom
theorem Own.none_ (w : World) (base : Nat) (el : TypeId) : Own R w base el (.slice none 0 0) [] [] := ⟨[], World.ownsRow_nil _ _ _ _, rfl, rfl⟩
theorem Own.made {b : Nat} {cs : List Value} (h : Blk w b el cs) {c : Nat} (hc : cs.length = c * R.sz) (hm : c ≤ maxLen) (hb : base ≤ b) : Own R w base el (.slice (some ⟨b, 0, none⟩) 0 c) [] [] :=
  ⟨[], ⟨by simp, .inr ⟨b, c, cs.toArray, rfl, hb, h, Nat.zero_le _, hm, by simpa using hc, by simp⟩⟩, rfl, rfl⟩
theorem Own.full {b : Nat} {cs : List Value} (h : Blk w b el cs) (hr : Rows R w xs cs fi) (hm : xs.length ≤ maxLen) (hb : base ≤ b) : Own R w base el (.slice (some ⟨b, 0, none⟩) xs.length xs.length) xs fi :=
  ⟨cs, ⟨hr.len, .inr ⟨b, xs.length, cs.toArray, rfl, hb, h, Nat.le_refl _, hm, by simpa using hr.len, by simp [← hr.len]⟩⟩, hr⟩
theorem Own.keep (h : Own R w base el v xs fi) (k : Keep w w') : Own R w' base el v xs fi := by
  obtain ⟨cells, h1, h2⟩ := h
  refine ⟨cells, h1.kept (row := none) ⟨k.os, k.tape, k.output, k.size, fun b hb _ => k.block b hb⟩ ?_, h2.same fun b hb => k.block b (h2.dom b hb)⟩
  cases hv : v.ownBlock with
  | none => exact .inl rfl
  | some b => exact .inr (by simp)
/-- a write elsewhere -/
theorem Own.upd (h : Own R w base el v xs fi) {b : Nat} {t : TypeId} {cs : List Value} (k : Upd w w' b t cs) (hb : v.ownBlock ≠ some b) (hf : b ∉ fi) : Own R w' base el v xs fi := by
  obtain ⟨cells, h1, h2⟩ := h
  refine ⟨cells, h1.kept (row := some b) ⟨k.os, k.tape, k.output, by rw [k.size]; exact Nat.le_refl _, fun b' _ hne => k.other b' (fun e => hne (by rw [e]))⟩ ?_, h2.same fun b' hb' => k.other b' (fun e => hf (e ▸ hb'))⟩
  cases hv : v.ownBlock with
  | none => exact .inl rfl
  | some b' => exact .inr (by rw [← hv]; exact hb)
theorem Own.grown (h : Own R w base el v xs fi) {row : Option Nat} (k : w.grownBy w' row) (hb : ∀ b, row = some b → v.ownBlock ≠ some b ∧ b ∉ fi) : Own R w' base el v xs fi := by
  obtain ⟨cells, h1, h2⟩ := h
  refine ⟨cells, h1.kept k ?_, h2.same fun b' hb' => k.block b' (h2.dom b' hb') (fun e => (hb b' e.symm).2 hb')⟩
  cases hv : v.ownBlock with
  | none => exact .inl rfl
  | some b' =>
    refine .inr fun e => ?_
    exact (hb b' e.symm).1 hv
theorem Own.split (h : Own R w base el v xs fi) : ∃ A n c, v = .slice A n c ∧ n = xs.length ∧ n ≤ c := by
  obtain ⟨cells, ⟨_, h1⟩, _⟩ := h
  rcases h1 with ⟨rfl, h0⟩ | ⟨b, cap, cur, rfl, _, _, hle, _⟩
  · exact ⟨none, 0, 0, rfl, h0.symm, Nat.le_refl _⟩
  · exact ⟨some ⟨b, 0, none⟩, xs.length, cap, rfl, rfl, hle⟩
/-- an own slice, read -/
theorem Own.sl (h : Own R w base el v xs fi) (hsz : 0 < R.sz) : ∃ fp, Sl R w v xs fp ∧ (∀ b, b ∈ fp → v.ownBlock = some b ∨ b ∈ fi) ∧ fp = v.ownBlock.toList ++ fi := by
  obtain ⟨cells, ⟨hl, h1⟩, h2⟩ := h
  rcases h1 with ⟨rfl, h0⟩ | ⟨b, cap, cur, rfl, hbb, hg, hle, hm, hcs, htk⟩
  · have hx : xs = [] := List.eq_nil_of_length_eq_zero h0
    subst hx
    obtain ⟨rfl, rfl⟩ := h2
    exact ⟨[], ⟨none, 0, [], [], rfl, ⟨Nat.zero_le _, by omega⟩, ⟨rfl, rfl⟩, .inl ⟨rfl, rfl, rfl⟩⟩, by simp, by simp [Value.ownBlock]⟩
  · have hlt : b < w.heap.size := (Array.getElem?_eq_some_iff.1 hg).1
    refine ⟨b :: fi, ⟨some ⟨b, 0, none⟩, cap, cells, fi, rfl, ⟨hle, by simp only [maxLen] at hm; omega⟩, h2, .inr ⟨_, rfl, hlt, fun j u hu => ?_, rfl⟩⟩, fun b' hb' => ?_, by simp [Value.ownBlock]⟩
    · rw [add_mk, Nat.zero_add]
      rw [← htk, List.getElem?_take] at hu
      split at hu
      · simp [World.cell?, hg]; simpa using hu
      · cases hu
    · rcases List.mem_cons.1 hb' with rfl | hb'
      · exact .inl rfl
      · exact .inr hb'
theorem Sl.src {A : Option Addr} {n c : Nat} {fp : List Nat} (h : Sl R w (.slice A n c) xs fp) : ∃ gi, Src R w A xs gi ∧ (∀ b, b ∈ gi → b ∈ fp) := by
  obtain ⟨A', c', cells, fi, he, hlc, hr, h⟩ := h
  simp only [Value.slice.injEq] at he
  obtain ⟨rfl, rfl, rfl⟩ := he
  rcases h with ⟨rfl, rfl, rfl⟩ | ⟨ad, rfl, hlt, hc, rfl⟩
  · exact ⟨fp, ⟨[], hr, .inl ⟨rfl, rfl⟩⟩, fun b hb => hb⟩
  · exact ⟨fi, ⟨cells, hr, .inr ⟨ad, rfl, hc⟩⟩, fun b hb => List.mem_cons_of_mem _ hb⟩
theorem Blk.src {b : Nat} {t : TypeId} {cs : List Value} (h : Blk w b t cs) (hr : Rows R w xs cs fi) : Src R w (some ⟨b, 0, none⟩) xs fi :=
  ⟨cs, hr, .inr ⟨_, rfl, fun j u hu => by rw [add_mk, Nat.zero_add, h.cell?]; exact hu⟩⟩
theorem Blk.grown {b : Nat} {t : TypeId} {cs : List Value} (h : Blk w b t cs) {row : Option Nat} (k : w.grownBy w' row) (hne : some b ≠ row) : Blk w' b t cs := (k.block b h.lt hne).trans h
theorem Keep.grown {w0 : World} (h : Keep w0 w) {row : Option Nat} (k : w.grownBy w' row) (hr : ∀ b, row = some b → w0.heap.size ≤ b) : Keep w0 w' :=
  Below.grown h k h.size hr
end own

/-- the blocks fp are apart from each other, were made since the heap had B blocks, and may be written -/
def Fresh (B : Nat) (w : World) (fp : List Nat) : Prop := fp.Nodup ∧ ∀ b, b ∈ fp → B ≤ b ∧ ∃ t cs, Blk w b t cs
theorem Fresh.nd {B : Nat} {w : World} {fp : List Nat} (h : Fresh B w fp) : fp.Nodup := h.1
theorem Fresh.ge {B : Nat} {w : World} {fp : List Nat} (h : Fresh B w fp) {b : Nat} (hb : b ∈ fp) : B ≤ b := (h.2 b hb).1
theorem Fresh.keep {B : Nat} {w w' : World} {fp : List Nat} (h : Fresh B w fp) (k : Keep w w') : Fresh B w' fp :=
  ⟨h.1, fun b hb => ⟨(h.2 b hb).1, by obtain ⟨t, cs, hc⟩ := (h.2 b hb).2; exact ⟨t, cs, hc.keep k⟩⟩⟩
theorem Fresh.upd {B : Nat} {w w' : World} {fp : List Nat} {g : Nat} {t : TypeId} {cs : List Value} (h : Fresh B w fp) (k : Upd w w' g t cs) : Fresh B w' fp :=
  ⟨h.1, fun b hb => ⟨(h.2 b hb).1, by
    obtain ⟨t', cs', hc⟩ := (h.2 b hb).2
    by_cases he : b = g
    · subst he; exact ⟨t, cs, k.blk⟩
    · exact ⟨t', cs', hc.upd k he⟩⟩⟩
theorem Fresh.mono {B B' : Nat} {w : World} {fp : List Nat} (h : Fresh B w fp) (hB : B' ≤ B) : Fresh B' w fp :=
  ⟨h.1, fun b hb => ⟨by have := (h.2 b hb).1; omega, (h.2 b hb).2⟩⟩
theorem Fresh.nil (B : Nat) (w : World) : Fresh B w [] := ⟨List.nodup_nil, fun b hb => by cases hb⟩
theorem Fresh.one {B : Nat} {w : World} {b : Nat} {t : TypeId} {cs : List Value} (h : Blk w b t cs) (hb : B ≤ b) : Fresh B w [b] :=
  ⟨by simp, fun b' hb' => by
    have : b' = b := by simpa using hb'
    subst this
    exact ⟨hb, t, cs, h⟩⟩
/-- a block of numbers, as a slice -/
theorem Rows.ints (w : World) : ∀ (xs : List Int), Rows intR w xs (xs.map (Value.int .i64)) []
  | [] => ⟨rfl, rfl⟩
  | x :: r => ⟨[.int .i64 x], r.map (Value.int .i64), [], [], rfl, rfl, ⟨rfl, rfl⟩, Rows.ints w r⟩
theorem Sl.ofBlk {α : Type} {R : Rp α} {w : World} {b : Nat} {t : TypeId} {cs cells : List Value} {xs : List α} {fi : List Nat} (h : Blk w b t cs) (hr : Rows R w xs cells fi) (hc : ∀ (j : Nat) (u : Value), cells[j]? = some u → cs[j]? = some u) {c : Nat} (hlc : xs.length ≤ c) (hcm : c ≤ 9223372036854775807 := by omega) :
    Sl R w (.slice (some ⟨b, 0, none⟩) xs.length c) xs (b :: fi) :=
  ⟨_, c, cells, fi, rfl, ⟨hlc, hcm⟩, hr, .inr ⟨_, rfl, h.lt, fun j u hu => by rw [add_mk, Nat.zero_add, h.cell?]; exact hc j u hu, rfl⟩⟩
theorem Sl.ofInts {w : World} {b : Nat} {t : TypeId} {cs : List Value} {xs : List Int} (h : Blk w b t cs) (hc : ∀ i, i < xs.length → cs[i]? = some (.int .i64 (gi xs (i : Int)))) {n c : Nat} (hn : n = xs.length) (hlc : n ≤ c) (hcm : c ≤ 9223372036854775807 := by omega) :
    Sl intR w (.slice (some ⟨b, 0, none⟩) n c) xs [b] := by
  subst hn
  refine Sl.ofBlk h (Rows.ints w xs) (fun j u hu => ?_) hlc hcm
  have hj : j < xs.length := by simpa using (List.getElem?_eq_some_iff.1 hu).1
  rw [hc j hj, ← hu, List.getElem?_map, List.getElem?_eq_getElem hj, gi_lt hj]; rfl
theorem set_at {cs : List Value} {k : Nat} {v : Value} {f : Nat → Value} (hk : k < cs.length) (hall : ∀ i, i < k → cs[i]? = some (f i)) (hv : v = f k) : ∀ i, i < k + 1 → (cs.set k v)[i]? = some (f i) := by
  intro i hi
  rw [List.getElem?_set]
  by_cases he : k = i
  · subst he; simp [hk, hv]
  · rw [if_neg he]; exact hall i (by omega)

section append
variable {P : Program} {N : Nat} {ops : Array Oper} {Q : Post} {rest : List Oper} {e : Env} {w : World}
  {ty : TypeId} {pos : String} {af : Array Edge} {g : Option (Nat × Bool)} {x y : Operand} {t el : TypeId} {sz bytes : Nat} {zc : List Value} {d : Tmp}
theorem o_append {α : Type} {R : Rp α} [ht : SliceT P t el] [he : ElemT P el sz bytes zc] {base : Nat} {v : Value} {xs ys : List α} {fi gi : List Nat} {A : Option Addr} {m c : Nat}
    (hg : gd ops e g = some true) (hd : Nat.blt d N = true) (hx : ev e x = some v) (hy : ev e y = some (.slice A m c)) (hsz : R.sz = sz) (hsz0 : 0 < sz)
    (ho : Own R w base el v xs fi) (hs : Src R w A ys gi) (hm : m = ys.length) (hf : ∀ b, v.ownBlock = some b → b ∉ fi ∧ b ∉ gi)
    (h63 : xs.length + ys.length ≤ 4611686018427387904) (hbytes : (xs.length + ys.length) * bytes ≤ 140737488355328) (hbase : base ≤ w.heap.size)
    (kk : ∀ v' w', Own R w' base el v' (xs ++ ys) (fi ++ gi) → w.grownBy w' v.ownBlock → (v'.ownBlock = v.ownBlock ∨ v'.ownBlock = some w.heap.size) → WL P N ops Q rest ((d, v') :: e) w') :
    WL P N ops Q (⟨some d, .call ⟨.builtin .append, #[x, y], #[t, t]⟩, ty, pos, af, g⟩ :: rest) e w := by
  have hzl : zc.length = sz := he.l
  subst hsz
  obtain ⟨i, zv, hi, h1, h2, h3, h4⟩ := he.get
  obtain ⟨cells, hown, hrows⟩ := ho
  obtain ⟨news, hrn, hsrc⟩ := hs
  have hlen := hrn.len
  have main : ∃ v' w', (Builtin.append_ #[t, t] ty #[v, .slice A m c]).run P w = .ok v' w' ∧ w'.ownsRow base el R.sz v' (xs.length + ys.length) (cells ++ news) ∧ w.grownBy w' v.ownBlock ∧ (v'.ownBlock = v.ownBlock ∨ v'.ownBlock = some w.heap.size) := by
    rcases hsrc with ⟨rfl, rfl⟩ | ⟨ad, rfl, hc⟩
    · cases A with
      | none =>
        refine ⟨v, w, ?_, by simpa using hown, World.grownBy.refl w _, .inl rfl⟩
        have hm0 : m = 0 := by simpa using hm
        subst hm0
        rcases hown.2 with ⟨rfl, h0⟩ | ⟨b, cap, cur, rfl, _, _, hnc, _⟩
        · simp [Builtin.append_, run_underlying ht.u, sizeOf, typeInfo, hi, Builtin.lenOf, Builtin.firstCells]
        · simp [Builtin.append_, run_underlying ht.u, sizeOf, typeInfo, hi, Builtin.lenOf, Builtin.firstCells, hnc, storeCells]
      | some ad =>
        obtain ⟨v', w', hr, h2', h3', _, h5⟩ := run_append_own_at (P := P) w base t ty el i zv R.sz bytes ht.u hi h3 h1 h2 (by rw [h4]; simpa using hzl) hsz0 v xs.length cells hown ad m c [] (by simp [hm]) (by simp) (by simp) (by rw [hm]; simp only [maxLen]; simp at h63 ⊢; omega) (by rw [hm]; exact hbytes) hbase
        exact ⟨v', w', hr, by rw [hm] at h2'; exact h2', h3', h5⟩
    · obtain ⟨v', w', hr, h2', h3', _, h5⟩ := run_append_own_at (P := P) w base t ty el i zv R.sz bytes ht.u hi h3 h1 h2 (by rw [h4]; simpa using hzl) hsz0 v xs.length cells hown ad m c news (by rw [hm]; exact hlen) hc (hrn.one) (by rw [hm]; simp only [maxLen]; omega) (by rw [hm]; exact hbytes) hbase
      exact ⟨v', w', hr, by rw [hm] at h2'; exact h2', h3', h5⟩
  obtain ⟨v', w', hr, h2', h3', h5⟩ := main
  refine WL_val (o := ⟨some d, .call ⟨.builtin .append, #[x, y], #[t, t]⟩, ty, pos, af, g⟩) (w' := w') (v := v') hg hd (fun a ha => ?_) (kk v' w' ⟨cells ++ news, by rw [List.length_append]; exact h2', ?_⟩ h3' h5)
  · simp [execOp, resolve, invoke, builtin, ha.ev hx, ha.ev hy, hr]
  · refine (hrows.same fun b hb => h3'.block b (hrows.dom b hb) fun e => (hf b e.symm).1 hb).append (hrn.same fun b hb => h3'.block b (hrn.dom b hb) fun e => (hf b e.symm).2 hb)
theorem Fresh.append {B : Nat} {w : World} {fi gi : List Nat} (h1 : Fresh B w fi) (h2 : Fresh B w gi) (hd : ∀ b, b ∈ fi → b ∉ gi) : Fresh B w (fi ++ gi) :=
  ⟨List.nodup_append.2 ⟨h1.1, h2.1, fun a ha b hb e => hd a ha (e ▸ hb)⟩, fun b hb => by
    rcases List.mem_append.1 hb with hb | hb
    · exact h1.2 b hb
    · exact h2.2 b hb⟩
theorem Fresh.dom {B : Nat} {w : World} {fi : List Nat} (h : Fresh B w fi) : ∀ b, b ∈ fi → b < w.heap.size := fun b hb => by
  obtain ⟨t, cs, hc⟩ := (h.2 b hb).2; exact hc.lt

/-- a slice of the call's own, and all that lies behind it: blocks of the call's own, apart from each other -/
structure OwnF {α : Type} (R : Rp α) (w : World) (base : Nat) (el : TypeId) (v : Value) (xs : List α) (fi : List Nat) : Prop where
  own : Own R w base el v xs fi
  fresh : Fresh base w fi
  out : ∀ b, v.ownBlock = some b → b ∉ fi
section ownF
variable {α : Type} {R : Rp α} {w w' : World} {base : Nat} {el : TypeId} {v : Value} {xs ys : List α} {fi gi : List Nat}
theorem OwnF.none_ (w : World) (base : Nat) (el : TypeId) : OwnF R w base el (.slice none 0 0) [] [] := ⟨Own.none_ w base el, Fresh.nil _ _, fun b hb => by simp [Value.ownBlock] at hb⟩
theorem OwnF.made {b : Nat} (h : Blk w b el []) (hb : base ≤ b) : OwnF R w base el (.slice (some ⟨b, 0, none⟩) 0 0) [] [] :=
  ⟨Own.made h (by simp) (Nat.zero_le _) hb, Fresh.nil _ _, fun b hb => by simp⟩
theorem OwnF.keep (h : OwnF R w base el v xs fi) (k : Keep w w') : OwnF R w' base el v xs fi := ⟨h.own.keep k, h.fresh.keep k, h.out⟩
theorem OwnF.upd (h : OwnF R w base el v xs fi) {b : Nat} {t : TypeId} {cs : List Value} (k : Upd w w' b t cs) (hb : v.ownBlock ≠ some b) (hf : b ∉ fi) : OwnF R w' base el v xs fi := ⟨h.own.upd k hb hf, h.fresh.upd k, h.out⟩
theorem OwnF.split (h : OwnF R w base el v xs fi) : ∃ A n c, v = .slice A n c ∧ n = xs.length ∧ n ≤ c := h.own.split
theorem OwnF.lt (h : OwnF R w base el v xs fi) {b : Nat} (hb : v.ownBlock = some b) : base ≤ b ∧ b < w.heap.size := h.own.lt hb
theorem OwnF.sl (h : OwnF R w base el v xs fi) (hsz : 0 < R.sz) : ∃ fp, Sl R w v xs fp ∧ Fresh base w fp := by
  obtain ⟨fp, h1, h2, h3⟩ := h.own.sl hsz
  refine ⟨fp, h1, ?_⟩
  subst h3
  obtain ⟨cells, ⟨_, hr⟩, _⟩ := h.own
  rcases hr with ⟨rfl, _⟩ | ⟨b, cap, cur, rfl, hb, hg, _⟩
  · exact h.fresh
  · refine (Fresh.one (t := el) (cs := cur.toList) (b := b) (by simpa [Blk] using hg) hb).append h.fresh fun b' hb' => ?_
    have : b' = b := by simpa using hb'
    subst this
    exact h.out _ rfl
theorem OwnF.grown (h : OwnF R w base el v xs fi) {row : Option Nat} (k : w.grownBy w' row) (hb : ∀ b, row = some b → v.ownBlock ≠ some b ∧ b ∉ fi) : OwnF R w' base el v xs fi :=
  ⟨h.own.grown k hb, ⟨h.fresh.1, fun b hbm => ⟨(h.fresh.2 b hbm).1, by
    obtain ⟨t, cs, hc⟩ := (h.fresh.2 b hbm).2
    exact ⟨t, cs, (k.block b hc.lt fun e => (hb b e.symm).2 hbm).trans hc⟩⟩⟩, h.out⟩
theorem grown_below {row : Option Nat} (k : w.grownBy w' row) {B : Nat} (hB : B ≤ w.heap.size) (hr : ∀ b, row = some b → B ≤ b) : Below B w w' :=
  (Below.refl _ _).grown k hB hr
theorem Keep.below {w0 : World} (h : Keep w0 w) {B : Nat} (k : Below B w w') (hB : w0.heap.size ≤ B) : Keep w0 w' := Below.trans h (Below.mono k hB)
end ownF
theorem o_appendF {α : Type} {R : Rp α} [ht : SliceT P t el] [he : ElemT P el sz bytes zc] {base M : Nat} {v : Value} {xs ys : List α} {fi gi : List Nat} {A : Option Addr} {m c : Nat}
    (hg : gd ops e g = some true) (hd : Nat.blt d N = true) (hx : ev e x = some v) (hy : ev e y = some (.slice A m c)) (hsz : R.sz = sz) (hsz0 : 0 < sz)
    (ho : OwnF R w base el v xs fi) (hs : Src R w A ys gi) (hm : m = ys.length) (hfg : Fresh base w gi)
    (hM1 : ∀ b, b ∈ fi → b < M) (hM2 : ∀ b, v.ownBlock = some b → b < M) (hM3 : ∀ b, b ∈ gi → M ≤ b)
    (h63 : xs.length + ys.length ≤ 4611686018427387904) (hbytes : (xs.length + ys.length) * bytes ≤ 140737488355328) (hbase : base ≤ w.heap.size)
    (kk : ∀ v' w', OwnF R w' base el v' (xs ++ ys) (fi ++ gi) → Below base w w' → w.grownBy w' v.ownBlock → WL P N ops Q rest ((d, v') :: e) w') :
    WL P N ops Q (⟨some d, .call ⟨.builtin .append, #[x, y], #[t, t]⟩, ty, pos, af, g⟩ :: rest) e w := by
  refine o_append hg hd hx hy hsz hsz0 ho.own hs hm (fun b hb => ⟨ho.out b hb, fun hm' => ?_⟩) h63 hbytes hbase fun v' w' h1 h2 h3 => kk v' w' ⟨h1, ?_, fun b hb hm' => ?_⟩ (grown_below h2 hbase fun b hb => (ho.lt hb).1) h2
  · have := hM2 b hb; have := hM3 b hm'; omega
  · have hfa : Fresh base w (fi ++ gi) := ho.fresh.append hfg fun b hb hm' => by have := hM1 b hb; have := hM3 b hm'; omega
    refine ⟨hfa.1, fun b hb => ⟨(hfa.2 b hb).1, ?_⟩⟩
    obtain ⟨t, cs, hc⟩ := (hfa.2 b hb).2
    refine ⟨t, cs, (h2.block b hc.lt fun e => ?_).trans hc⟩
    rcases List.mem_append.1 hb with hb' | hb'
    · exact ho.out b e.symm hb'
    · have := hM2 b e.symm; have := hM3 b hb'; omega
  · rcases h3 with h3 | h3
    · rw [h3] at hb
      rcases List.mem_append.1 hm' with hb' | hb'
      · exact ho.out b hb hb'
      · have := hM2 b hb; have := hM3 b hb'; omega
    · rw [h3] at hb
      simp only [Option.some.injEq] at hb
      rcases List.mem_append.1 hm' with hb' | hb'
      · have := ho.fresh.dom b hb'; omega
      · have := hfg.dom b hb'; omega
end append
end Go.E

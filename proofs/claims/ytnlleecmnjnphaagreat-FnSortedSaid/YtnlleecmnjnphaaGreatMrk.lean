/-
  The engine, part five: writing into a slice's elements in place. Conditions: none; every lemma is over any program.
-/
import Derived.Test.YtnlleecmnjnphaaGreatGk
set_option linter.unusedVariables false
set_option linter.unusedSimpArgs false
namespace Go.E
open Go Go.RowKit

/-- of the blocks that were there only those of fp may have turned -/
structure Wrs (w w' : World) (fp : List Nat) : Prop where
  os : w'.os = w.os
  tape : w'.tape = w.tape
  output : w'.output = w.output
  size : w.heap.size ≤ w'.heap.size
  other : ∀ k, k < w.heap.size → k ∉ fp → w'.heap[k]? = w.heap[k]?

/-- one cell has turned -/
structure Put (w w' : World) (p : Option Addr) (v : Value) : Prop where
  os : w'.os = w.os
  tape : w'.tape = w.tape
  output : w'.output = w.output
  size : w'.heap.size = w.heap.size
  ex : ∃ ad, p = some ad ∧ ad.spot = none ∧ ad.block < w.heap.size ∧ w'.cell? ad = some v ∧ (∀ q : Addr, q.spot = none → q ≠ ad → w'.cell? q = w.cell? q) ∧ (∀ k, k ≠ ad.block → w'.heap[k]? = w.heap[k]?) ∧
    ∃ t cs cs', Blk w ad.block t cs ∧ Blk w' ad.block t cs'

section
variable {w w' w0 : World} {fp gp : List Nat} {p : Option Addr} {v : Value}
theorem Wrs.refl (w : World) : Wrs w w fp := ⟨rfl, rfl, rfl, Nat.le_refl _, fun _ _ _ => rfl⟩
theorem Wrs.trans {w2 : World} (h : Wrs w w' fp) (k : Wrs w' w2 fp) : Wrs w w2 fp :=
  ⟨k.os.trans h.os, k.tape.trans h.tape, k.output.trans h.output, Nat.le_trans h.size k.size, fun b hb hf => (k.other b (Nat.lt_of_lt_of_le hb h.size) hf).trans (h.other b hb hf)⟩
theorem Wrs.sub (h : Wrs w w' fp) (hs : ∀ b, b ∈ fp → b ∈ gp) : Wrs w w' gp :=
  ⟨h.os, h.tape, h.output, h.size, fun b hb hf => h.other b hb fun hm => hf (hs b hm)⟩
theorem Keep.wrs (h : Keep w w') : Wrs w w' fp := ⟨h.os, h.tape, h.output, h.size, fun b hb _ => h.block b hb⟩
theorem Wrs.keep (h : Keep w0 w) (k : Wrs w w' fp) (hf : ∀ b, b ∈ fp → w0.heap.size ≤ b) : Keep w0 w' :=
  ⟨k.os.trans h.os, k.tape.trans h.tape, k.output.trans h.output, Nat.le_trans h.size k.size, fun b hb => (k.other b (Nat.lt_of_lt_of_le hb h.size) fun hm => by have := hf b hm; omega).trans (h.block b hb)⟩
theorem Sl.wrs {α : Type} {R : Rp α} {u : Value} {xs : List α} (h : Sl R w u xs gp) (k : Wrs w w' fp) (hd : ∀ b, b ∈ gp → b ∉ fp) : Sl R w' u xs gp :=
  h.same fun b hb => k.other b (h.dom b hb) (hd b hb)
theorem Fresh.wrs {B : Nat} (h : Fresh B w gp) (k : Wrs w w' fp) (hd : ∀ b, b ∈ gp → b ∉ fp) : Fresh B w' gp :=
  ⟨h.1, fun b hb => ⟨(h.2 b hb).1, by
    obtain ⟨t, cs, hc⟩ := (h.2 b hb).2
    exact ⟨t, cs, (k.other b hc.lt (hd b hb)).trans hc⟩⟩⟩
theorem Blk.wrs {b : Nat} {t : TypeId} {cs : List Value} (h : Blk w b t cs) (k : Wrs w w' fp) (hd : b ∉ fp) : Blk w' b t cs := (k.other b h.lt hd).trans h
theorem Put.wrs (h : Put w w' p v) : ∃ ad, p = some ad ∧ Wrs w w' [ad.block] := by
  obtain ⟨ad, hp, _, _, _, _, ho, _⟩ := h.ex
  exact ⟨ad, hp, h.os, h.tape, h.output, by rw [h.size]; exact Nat.le_refl _, fun k _ hk => ho k (by simpa using hk)⟩
theorem Fresh.put {B : Nat} (h : Fresh B w gp) (k : Put w w' p v) : Fresh B w' gp :=
  ⟨h.1, fun b hb => ⟨(h.2 b hb).1, by
    obtain ⟨t, cs, hc⟩ := (h.2 b hb).2
    obtain ⟨ad, _, _, _, _, _, ho, t', cs1, cs2, _, h2⟩ := k.ex
    by_cases he : b = ad.block
    · subst he; exact ⟨t', cs2, h2⟩
    · exact ⟨t, cs, (ho b he).trans hc⟩⟩⟩
end

/-- two addresses of one row -/
theorem add_ne {ad : Addr} (hs : ad.spot = none) {i j : Nat} (h : i ≠ j) : ad.add i ≠ ad.add j := by
  obtain ⟨b, o, s⟩ := ad
  simp only at hs; subst hs
  rw [add_mk, add_mk]
  intro he
  simp only [Addr.mk.injEq] at he
  omega
theorem add_spot {ad : Addr} (hs : ad.spot = none) (i : Nat) : (ad.add i).spot = none := by
  obtain ⟨b, o, s⟩ := ad
  simp only at hs; subst hs
  rw [add_mk]
theorem spot_of_cell {w : World} {ad : Addr} {v : Value} (h : w.cell? ad = some v) : ad.spot = none := by
  unfold World.cell? at h
  split at h
  · cases hs : ad.spot with
    | none => rfl
    | some s => simp [hs] at h
  · cases h

theorem Rows.split {α : Type} {R : Rp α} {w : World} {xs : List α} {cells : List Value} {fi : List Nat} (h : Rows R w xs cells fi) {k : Nat} (hk : k < xs.length) :
    ∃ c1 ck c2 f1 fk f2, cells = c1 ++ (ck ++ c2) ∧ fi = f1 ++ (fk ++ f2) ∧ Rows R w (xs.take k) c1 f1 ∧ R.rep w xs[k] ck fk ∧ Rows R w (xs.drop (k + 1)) c2 f2 ∧ c1.length = k * R.sz ∧ ck.length = R.sz := by
  induction xs generalizing cells fi k with
  | nil => simp at hk
  | cons x r ih =>
    obtain ⟨a1, a2, b1, b2, rfl, rfl, h1, h2⟩ := h
    cases k with
    | zero => exact ⟨[], a1, a2, [], b1, b2, rfl, rfl, ⟨rfl, rfl⟩, h1, h2, by simp, R.len h1⟩
    | succ k =>
      obtain ⟨c1, ck, c2, f1, fk, f2, rfl, rfl, g1, g2, g3, g4, g5⟩ := ih h2 (by simpa using hk)
      exact ⟨a1 ++ c1, ck, c2, b1 ++ f1, fk, f2, by simp, by simp, ⟨a1, c1, b1, f1, rfl, rfl, h1, g1⟩, by simpa using g2, by simpa using g3, by rw [List.length_append, R.len h1, g4, Nat.succ_mul]; omega, g5⟩
theorem Rows.join {α : Type} {R : Rp α} {w : World} {xs : List α} {x' : α} {c1 ck c2 : List Value} {f1 fk f2 : List Nat} {k : Nat} (hk : k < xs.length) (h1 : Rows R w (xs.take k) c1 f1) (h2 : R.rep w x' ck fk) (h3 : Rows R w (xs.drop (k + 1)) c2 f2) :
    Rows R w (xs.set k x') (c1 ++ (ck ++ c2)) (f1 ++ (fk ++ f2)) := by
  rw [List.set_eq_take_append_cons_drop, if_pos hk]
  exact h1.append ⟨ck, c2, fk, f2, rfl, rfl, h2, h3⟩

section
variable {α : Type} {R : Rp α} {w w' : World} {A : Option Addr} {n c : Nat} {xs : List α} {fp : List Nat}
/-- an element, to be changed in place: its cells and blocks; and the way back -/
theorem Sl.focus (h : Sl R w (.slice A n c) xs fp) (hn : fp.Nodup) (hsz : 0 < R.sz) {k : Nat} (hk : k < n) :
    ∃ (hk' : k < xs.length) (ad : Addr) (ck : List Value) (fk : List Nat), A = some ad ∧ ad.spot = none ∧ ad.block ∈ fp ∧ ad.block ∉ fk ∧ fk.Nodup ∧ (∀ b, b ∈ fk → b ∈ fp) ∧ R.rep w xs[k] ck fk ∧ Cells w (ea A R.sz k) ck ∧
      ∀ (w' : World) (x' : α) (ck' : List Value), R.rep w' x' ck' fk → Cells w' (ea A R.sz k) ck' → ad.block < w'.heap.size →
        (∀ b, b ∈ fp → b ∉ fk → b ≠ ad.block → w'.heap[b]? = w.heap[b]?) → (∀ j, (j < k * R.sz ∨ (k + 1) * R.sz ≤ j) → w'.cell? (ad.add j) = w.cell? (ad.add j)) → Sl R w' (.slice A n c) (xs.set k x') fp := by
  obtain ⟨A', c', cells, fi, he, hlc, hr, h⟩ := h
  simp only [Value.slice.injEq] at he
  obtain ⟨rfl, rfl, rfl⟩ := he
  rcases h with ⟨_, h2, _⟩ | ⟨ad, rfl, hlt, hc, rfl⟩
  · subst h2; simp at hk
  · obtain ⟨c1, ck, c2, f1, fk, f2, rfl, rfl, g1, g2, g3, g4, g5⟩ := hr.split hk
    have hspot : ad.spot = none := by
      have h0 : 0 < ck.length := by omega
      have := hc (k * R.sz) ck[0] (by rw [List.getElem?_append_right (by omega), g4, Nat.sub_self, List.getElem?_append_left h0]; exact List.getElem?_eq_getElem h0)
      have := spot_of_cell this
      obtain ⟨b, o, s⟩ := ad
      unfold Addr.add at this
      split at this <;> simp_all
      rename_i hne
      have h1 := hc 0
      rcases k with _ | k
      · simp at hne
      · have hl1 : 0 < c1.length := by rw [g4, Nat.succ_mul]; omega
        have h2 := h1 c1[0] (by rw [List.getElem?_append_left hl1]; exact List.getElem?_eq_getElem hl1)
        have := spot_of_cell h2
        simpa [Addr.add] using this
    rw [List.nodup_cons] at hn
    obtain ⟨hn1, hn2⟩ := hn
    rw [List.nodup_append] at hn2
    obtain ⟨hna, hnb, hnab⟩ := hn2
    rw [List.nodup_append] at hnb
    obtain ⟨hnk, hnc, hnkc⟩ := hnb
    refine ⟨hk, ad, ck, fk, rfl, hspot, List.mem_cons_self .., fun hm => hn1 (by simp [hm]), hnk, fun b hb => by simp [hb], g2, ?_, ?_⟩
    · refine ⟨_, rfl, fun j u hu => ?_⟩
      rw [add_add]
      refine hc _ u ?_
      have hj : j < ck.length := (List.getElem?_eq_some_iff.1 hu).1
      simp only [Int.toNat_natCast]
      rw [List.getElem?_append_right (by omega), g4, show k * R.sz + j - k * R.sz = j by omega, List.getElem?_append_left hj]
      exact hu
    · intro w' x' ck' hr' hcells' hlt' hsame hcell
      have hl' := R.len hr'
      have e1 : Rows R w' (xs.take k) c1 f1 := g1.same fun b hb => hsame b (by simp [hb]) (fun hm => (hnab b hb b (by simp [hm])) rfl) (fun e => hn1 (by rw [← e]; simp [hb]))
      have e3 : Rows R w' (xs.drop (k + 1)) c2 f2 := g3.same fun b hb => hsame b (by simp [hb]) (fun hm => (hnkc b hm b hb) rfl) (fun e => hn1 (by rw [← e]; simp [hb]))
      refine ⟨some ad, c, c1 ++ (ck' ++ c2), f1 ++ (fk ++ f2), by simp, by simpa using hlc, Rows.join hk e1 hr' e3, .inr ⟨ad, rfl, hlt', fun j u hu => ?_, rfl⟩⟩
      by_cases hj1 : j < k * R.sz
      · rw [hcell j (.inl hj1)]
        refine hc j u ?_
        rw [List.getElem?_append_left (by omega)] at hu ⊢
        exact hu
      · by_cases hj2 : j < (k + 1) * R.sz
        · rw [Nat.succ_mul] at hj2
          rw [List.getElem?_append_right (by omega), g4, List.getElem?_append_left (by omega)] at hu
          obtain ⟨ad', he, hcc⟩ := hcells'
          simp only [ea, Option.map_some, Option.some.injEq, Int.toNat_natCast] at he
          subst he
          have := hcc _ u hu
          rw [add_add, show k * R.sz + (j - k * R.sz) = j by omega] at this
          exact this
        · rw [hcell j (.inr (by omega))]
          rw [Nat.succ_mul] at hj2
          refine hc j u ?_
          rw [List.getElem?_append_right (by omega), List.getElem?_append_right (by omega)] at hu ⊢
          rw [hl'] at hu
          rw [g5]; exact hu
/-- one cell of an element is written -/
theorem Sl.put (h : Sl R w (.slice A n c) xs fp) (hn : fp.Nodup) (hsz : 0 < R.sz) {k j : Nat} (hk : k < n) (hj : j < R.sz) {u : Value} {x' : α} (hx : ∀ (hk' : k < xs.length) ck fk, R.rep w xs[k] ck fk → R.rep w x' (ck.set j u) fk)
    {p : Option Addr} (hp : p = fa (ea A R.sz k) j) (hput : Put w w' p u) : Sl R w' (.slice A n c) (xs.set k x') fp := by
  obtain ⟨hk', ad, ck, fk, rfl, hs, hm, hnm, hnk, hsub, hr, hc, back⟩ := h.focus hn hsz hk
  obtain ⟨ad', hp', hsp', hlt', hcell', hoth, hblk, _⟩ := hput.ex
  have hadr : ad' = ad.add (k * R.sz + j) := by
    rw [hp', ea, fa] at hp
    simp only [Option.map_some, Option.some.injEq, Int.toNat_natCast, add_add] at hp
    exact hp
  have hb' : ad'.block = ad.block := by rw [hadr, block_add]
  have hsame : ∀ b, b ≠ ad.block → w'.heap[b]? = w.heap[b]? := fun b hb => hblk b (by rw [hb']; exact hb)
  refine back w' x' (ck.set j u) (R.same (hx hk' ck fk hr) fun b hb => hsame b fun e => hnm (e ▸ hb)) ?_ (by rw [hput.size, ← hb']; exact hlt') (fun b _ _ hb => hsame b hb) (fun i hi => ?_)
  · obtain ⟨ad2, he, hcc⟩ := hc
    refine ⟨ad2, he, fun i v hv => ?_⟩
    simp only [ea, Option.map_some, Option.some.injEq, Int.toNat_natCast] at he
    subst he
    rw [List.getElem?_set] at hv
    by_cases hji : j = i
    · subst hji
      have hjl : j < ck.length := by rw [R.len hr]; exact hj
      rw [if_pos rfl, if_pos hjl] at hv
      rw [add_add, ← hadr, hcell']
      exact hv
    · rw [if_neg hji] at hv
      rw [hoth _ (by rw [add_add]; exact add_spot hs _) (by rw [add_add, hadr]; exact add_ne hs (by omega))]
      exact hcc i v hv
  · refine hoth _ (add_spot hs _) (by rw [hadr]; exact add_ne hs (by rw [Nat.succ_mul] at hi; omega))
/-- blocks behind an element are written -/
theorem Sl.inner (h : Sl R w (.slice A n c) xs fp) (hn : fp.Nodup) (hsz : 0 < R.sz) {k : Nat} (hk : k < n) {x' : α} {f : List Nat} (hw : Wrs w w' f)
    (hx : ∀ (hk' : k < xs.length) ck fk, R.rep w xs[k] ck fk → Cells w (ea A R.sz k) ck → fk.Nodup → (∀ b, b ∈ f → b ∈ fk) ∧ R.rep w' x' ck fk) : Sl R w' (.slice A n c) (xs.set k x') fp := by
  obtain ⟨hk', ad, ck, fk, rfl, hs, hm, hnm, hnk, hsub, hr, hc, back⟩ := h.focus hn hsz hk
  obtain ⟨hf, hr'⟩ := hx hk' ck fk hr hc hnk
  have hlt : ad.block < w.heap.size := h.dom _ hm
  have hsame : w'.heap[ad.block]? = w.heap[ad.block]? := hw.other _ hlt fun hm' => hnm (hf _ hm')
  refine back w' x' ck hr' ?_ (Nat.lt_of_lt_of_le hlt hw.size) (fun b hb hb1 hb2 => hw.other b (h.dom b hb) fun hm' => hb1 (hf b hm')) (fun j _ => cell_heap (by rw [block_add]; exact hsame))
  obtain ⟨ad2, he, hcc⟩ := hc
  refine ⟨ad2, he, fun j v hv => ?_⟩
  have hb2 : ad2.block = ad.block := by
    simp only [ea, Option.map_some, Option.some.injEq] at he
    rw [← he, block_add]
  rw [cell_heap (w := w) (by rw [block_add, hb2]; exact hsame)]
  exact hcc j v hv
end

theorem Fresh.sub {B : Nat} {w : World} {fp fk : List Nat} (h : Fresh B w fp) (hn : fk.Nodup) (hs : ∀ b, b ∈ fk → b ∈ fp) : Fresh B w fk := ⟨hn, fun b hb => h.2 b (hs b hb)⟩
theorem Fresh.join {B : Nat} {w w' : World} {fp fk : List Nat} (h : Fresh B w fp) (k : Wrs w w' fk) (h' : Fresh B w' fk) : Fresh B w' fp :=
  ⟨h.1, fun b hb => ⟨(h.2 b hb).1, by
    by_cases hk : b ∈ fk
    · exact (h'.2 b hk).2
    · obtain ⟨t, cs, hc⟩ := (h.2 b hb).2
      exact ⟨t, cs, (k.other b hc.lt hk).trans hc⟩⟩⟩
/-- an element, whose inner blocks are to be changed -/
theorem Sl.focusI {α : Type} {R : Rp α} {w : World} {A : Option Addr} {n c : Nat} {xs : List α} {fp : List Nat} (h : Sl R w (.slice A n c) xs fp) (hn : fp.Nodup) (hsz : 0 < R.sz) {k : Nat} (hk : k < n) :
    ∃ (hk' : k < xs.length) (ck : List Value) (fk : List Nat), fk.Nodup ∧ (∀ b, b ∈ fk → b ∈ fp) ∧ R.rep w xs[k] ck fk ∧ Cells w (ea A R.sz k) ck ∧ A.isSome = true ∧
      ∀ (w' : World) (x' : α), Wrs w w' fk → R.rep w' x' ck fk → Sl R w' (.slice A n c) (xs.set k x') fp := by
  obtain ⟨hk', ad, ck, fk, rfl, hs, hm, hnm, hnk, hsub, hr, hc, back⟩ := h.focus hn hsz hk
  refine ⟨hk', ck, fk, hnk, hsub, hr, hc, rfl, fun w' x' hw hr' => ?_⟩
  have hlt : ad.block < w.heap.size := h.dom _ hm
  have hsame : w'.heap[ad.block]? = w.heap[ad.block]? := hw.other _ hlt hnm
  refine back w' x' ck hr' ?_ (Nat.lt_of_lt_of_le hlt hw.size) (fun b hb hb1 hb2 => hw.other b (h.dom b hb) hb1) (fun j _ => cell_heap (by rw [block_add]; exact hsame))
  obtain ⟨ad2, he, hcc⟩ := hc
  refine ⟨ad2, he, fun j v hv => ?_⟩
  have hb2 : ad2.block = ad.block := by
    simp only [ea, Option.map_some, Option.some.injEq] at he
    rw [← he, block_add]
  rw [cell_heap (w := w) (by rw [block_add, hb2]; exact hsame)]
  exact hcc j v hv
theorem Cells.one {w : World} {p : Option Addr} {v : Value} (h : Cells w p [v]) : Cell w p v := by
  obtain ⟨ad, hp, hc⟩ := h
  exact ⟨ad, hp, by have := hc 0 v rfl; simpa [Addr.add] using this⟩
theorem Sl.blocks {α : Type} {R : Rp α} {w : World} {A : Option Addr} {n c : Nat} {xs : List α} {fp : List Nat} (h : Sl R w (.slice A n c) xs fp) (hsz : 0 < R.sz) (hn : 0 < n) : ∀ ad, A = some ad → ad.block ∈ fp := by
  obtain ⟨A', c', cells, fi, he, hlc, hr, h⟩ := h
  simp only [Value.slice.injEq] at he
  obtain ⟨rfl, rfl, rfl⟩ := he
  rcases h with ⟨_, h2, _⟩ | ⟨ad, rfl, hlt, hc, rfl⟩
  · subst h2; simp at hn
  · intro ad' he
    simp only [Option.some.injEq] at he
    subst he; exact List.mem_cons_self ..
theorem ea_block {A : Option Addr} {sz : Nat} {i : Int} {ad : Addr} (h : ea A sz i = some ad) : ∃ ad', A = some ad' ∧ ad.block = ad'.block := by
  cases A with
  | none => simp [ea] at h
  | some a =>
    simp only [ea, Option.map_some, Option.some.injEq] at h
    exact ⟨a, rfl, by rw [← h, block_add]⟩
theorem fa_block {p : Option Addr} {f : Nat} {ad : Addr} (h : fa p f = some ad) : ∃ ad', p = some ad' ∧ ad.block = ad'.block := by
  cases p with
  | none => simp [fa] at h
  | some a =>
    simp only [fa, Option.map_some, Option.some.injEq] at h
    exact ⟨a, rfl, by rw [← h, block_add]⟩
theorem fa_zero (p : Option Addr) : fa p 0 = p := by cases p <;> simp [fa, Addr.add]
theorem Put.wrs_of {w w' : World} {p : Option Addr} {v : Value} {fp : List Nat} (h : Put w w' p v) (hm : ∀ ad, p = some ad → ad.block ∈ fp) : Wrs w w' fp := by
  obtain ⟨ad, hp, hw⟩ := h.wrs
  exact hw.sub fun b hb => by
    have : b = ad.block := by simpa using hb
    subst this; exact hm ad hp

section ops
variable {P : Program} {N : Nat} {ops : Array Oper} {Q : Post} {rest : List Oper} {e : Env} {w : World}
  {ty : TypeId} {pos : String} {af : Array Edge} {g : Option (Nat × Bool)} {x y : Operand} {t : TypeId} {bytes : Nat} {zc : List Value} {p : Option Addr}
/-- a store into a cell that is known, of a block that may be written -/
theorem o_storeC [he : ElemT P t 1 bytes zc] {v u : Value} {B : Nat} {fp : List Nat} (hg : gd ops e g = some true) (hx : ev e x = some (.pointer p)) (hc : Cell w p u) (hy : ev e y = some v) (h1 : v.oneCell' = true)
    (hf : Fresh B w fp) (hm : ∀ ad, p = some ad → ad.block ∈ fp) (kk : ∀ w', Put w w' p v → WL P N ops Q rest e w') : WL P N ops Q (⟨none, .store t x y, ty, pos, af, g⟩ :: rest) e w := by
  obtain ⟨ad, rfl, hcell⟩ := hc
  have hs := spot_of_cell hcell
  obtain ⟨b, o, s⟩ := ad
  simp only at hs; subst hs
  obtain ⟨_, tt, cs, hb⟩ := hf.2 b (hm _ rfl)
  have ho : o < cs.length := by
    rw [hb.cell?] at hcell
    exact (List.getElem?_eq_some_iff.1 hcell).1
  refine o_store1 (off := o) hg hx rfl hy h1 hb ho fun w' hu => kk w' ⟨hu.os, hu.tape, hu.output, hu.size, _, rfl, rfl, hb.lt, ?_, fun q hq hne => ?_, fun k hk => hu.other k hk, tt, cs, _, hb, hu.blk⟩
  · rw [hu.blk.cell?]; simp [ho]
  · by_cases hqb : q.block = b
    · obtain ⟨b', o', s'⟩ := q
      simp only at hq hqb; subst hq; subst hqb
      have hoo : o ≠ o' := fun e => hne (by rw [e])
      rw [hu.blk.cell?, hb.cell?, List.getElem?_set, if_neg hoo]
    · exact cell_heap (hu.other _ hqb)
end ops
section again
variable {α : Type} {R : Rp α} {w w' : World} {A : Option Addr} {n c : Nat} {xs : List α} {fp : List Nat}
theorem set_self {α : Type} {xs : List α} {k : Nat} [Inhabited α] (h : k < xs.length) : xs.set k (gi xs (k : Int)) = xs := by
  rw [gi_lt h]; exact List.set_getElem_self h
/-- a cell of an element that has been turned already -/
theorem Sl.putS {k j : Nat} {x x' : α} (h : Sl R w (.slice A n c) (xs.set k x) fp) (hn : fp.Nodup) (hsz : 0 < R.sz) (hk : k < n) (hj : j < R.sz) {u : Value} (hx : ∀ ck fk, R.rep w x ck fk → R.rep w x' (ck.set j u) fk)
    {p : Option Addr} (hp : p = fa (ea A R.sz k) j) (hput : Put w w' p u) : Sl R w' (.slice A n c) (xs.set k x') fp := by
  have := h.put hn hsz hk hj (x' := x') (u := u) (fun hk' ck fk hr => hx ck fk (by simpa using hr)) hp hput
  rwa [List.set_set] at this
theorem Sl.focusS {k : Nat} {x : α} (h : Sl R w (.slice A n c) (xs.set k x) fp) (hn : fp.Nodup) (hsz : 0 < R.sz) (hk : k < n) :
    ∃ (ck : List Value) (fk : List Nat), fk.Nodup ∧ (∀ b, b ∈ fk → b ∈ fp) ∧ R.rep w x ck fk ∧ Cells w (ea A R.sz k) ck ∧ A.isSome = true ∧
      ∀ (w' : World) (x' : α), Wrs w w' fk → R.rep w' x' ck fk → Sl R w' (.slice A n c) (xs.set k x') fp := by
  obtain ⟨hk', ck, fk, h1, h2, h3, h4, h5, back⟩ := h.focusI hn hsz hk
  refine ⟨ck, fk, h1, h2, by simpa using h3, h4, h5, fun w' x' hw hr => ?_⟩
  have := back w' x' hw hr
  rwa [List.set_set] at this
end again
end Go.E

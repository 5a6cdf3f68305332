/-
  Contracts: copies of expressions. Conditions: as stated.
-/
import Derived.Test.YtomkdoppjimhoaaCw
set_option linter.unusedVariables false
set_option linter.unusedSimpArgs false
namespace Go.E
open Go Go.RowKit Go.Proofs
theorem Cells.grown {w w' : World} {p : Option Addr} {vs : List Value} (h : Cells w p vs) {row : Option Nat} (k : w.grownBy w' row) (hb : ∀ ad, p = some ad → ad.block < w.heap.size ∧ ∀ b, row = some b → b ≠ ad.block) : Cells w' p vs := by
  obtain ⟨ad, rfl, hc⟩ := h
  obtain ⟨h1, h2⟩ := hb ad rfl
  refine ⟨ad, rfl, fun j v hv => ?_⟩
  rw [← hc j v hv]
  exact cell_heap (by rw [block_add]; exact k.block _ h1 fun e => h2 _ e.symm rfl)
theorem wish_form {w : World} {x : Wsh} {a b c v u : Value} {f : List Nat} (h : wishR.rep w x [a, b, c, v, u] f) : ∃ A n d B m e, v = .slice A n d ∧ u = .slice B m e := by
  obtain ⟨v', u', f1, f2, h1, _, h2, h3⟩ := h
  simp only [List.cons.injEq, and_true] at h1
  obtain ⟨_, _, _, rfl, rfl⟩ := h1
  obtain ⟨A, d, h4, _⟩ := h2.form
  obtain ⟨B, e, h5, _⟩ := h3.form
  exact ⟨A, _, d, B, _, e, h4, h5⟩
attribute [local irreducible] W WL WD WE thenE inE retQ PureOp Keep Cell Cells Blk Sl Rows Own Src Fresh

set_option maxHeartbeats 2000000 in
theorem copyNodes_own {w : World} {v : Value} {E : List Nod} {fp : List Nat} (hx : Sl nodeR w v E fp) (hn : E.length + totN E ≤ 1048576) :
    Run Try.prog 50 [v] w (fun r w' => Keep w w' ∧ ∃ fi, OwnF nodeR w' w.heap.size 74 r E fi) := by
  obtain ⟨A, n, c, rfl, hnx⟩ := hx.split
  refine Run_intro Try.func50 (by unfold CallOk; kernel_rfl) rfl Try.ntmps50 (Nat.le_of_ble_eq_true rfl) ?_
  simp only [penv, Nat.reduceAdd, Nat.zero_add]
  repeat refine zz ?_
  refine o_buildSlice rfl rfl rfl rfl rfl (by intro p hp; cases hp) (by omega) ?_
  intro bO wO halO
  have hkO := halO.kp
  have zO := halO.b_eq
  have ho1 : OwnF nodeR wO w.heap.size 74 (.slice (some ⟨bO, 0, none⟩) 0 0) [] [] := OwnF.made halO.blk (by omega)
  repeat refine zz ?_
  refine W_loop (S := Nat × Value) (fun s => [(3, s.2), (7, .slice A n c), (8, .int .i64 n), (9, .int .i64 (s.1 : Int))]) (fun s w' => Keep w w' ∧ s.1 ≤ n ∧ ∃ fi, OwnF nodeR w' w.heap.size 74 s.2 (E.take s.1) fi) (fun s => n - s.1) (0, _) ⟨rfl, rfl, rfl, rfl, trivial⟩ ⟨hkO, Nat.zero_le _, [], by simpa using ho1⟩ ?_
  clear ho1 hkO halO
  rintro ⟨k, va⟩ wa ⟨hka, hk, fi, hoa⟩
  dsimp only at hk hoa ⊢
  have hza := hka.size_le
  have hxa := hx.keep hka
  repeat refine zz ?_
  refine W_cond rfl (fun hc => ?_) (fun hc => ?_)
  · have hkn : k < n := by simp at hc; omega
    obtain ⟨hA, vl, ul, f1, f2, hcell, hvl, hul, _⟩ := node_get hxa (i := (k : Int)) (by omega) (by omega)
    have hle := totN_each (L := E) (k := k) (by omega)
    have ov := hvl.oneCell
    have ou := hul.oneCell
    have d1 := hvl.dom
    have d2 := hul.dom
    have hown := fun c hc => (hoa.lt (b := c) hc)
    have hdm := hoa.fresh.dom
    repeat refine zz ?_
    refine o_alloc rfl rfl ?_
    intro b5 w5 hal5
    have hb50 := hal5.blk
    have e5 := hal5.b_eq
    have z5 := hal5.size
    replace hka := hka.keep hal5.kp
    replace hoa := hoa.keep hal5.kp
    replace hvl := hvl.keep hal5.kp
    replace hul := hul.keep hal5.kp
    repeat refine zz ?_
    refine o_storeS (b := b5) (off := 0) rfl rfl rfl rfl (by repeat (first | exact ones_nil | refine ones_cons (by first | rfl | assumption) ?_)) rfl hb50 (by simp) ?_
    intro w6 hu6
    have hb5 : Blk w6 b5 74 [.int .i64 (gi E (k : Int)).op, .int .i64 (gi E (k : Int)).wish.kind, .int .i64 (gi E (k : Int)).wish.field, .int .i64 (gi E (k : Int)).wish.value, vl, ul] := hu6.blk
    replace hka := hka.upd hu6 (by omega)
    replace hoa := hoa.upd hu6 (fun e => by have := hown _ e; omega) (fun hm => by have := hdm _ hm; omega)
    replace hvl := hvl.upd hu6 (fun hm => by have := d1 _ hm; omega)
    replace hul := hul.upd hu6 (fun hm => by have := d2 _ hm; omega)
    have z6 := hu6.size
    repeat refine zz ?_
    refine W_draw (fun w' => Blk w' b5 74 [.int .i64 (gi E (k : Int)).op, .int .i64 (gi E (k : Int)).wish.kind, .int .i64 (gi E (k : Int)).wish.field, .int .i64 (gi E (k : Int)).wish.value, vl, ul]) (by kernel_rfl) ?_
    have hS : Keep w6 (World.drew w6) := Keep.drew w6
    have hSb := hb5.keep hS
    replace hka := hka.keep hS
    replace hoa := hoa.keep hS
    replace hvl := hvl.keep hS
    replace hul := hul.keep hS
    refine WD_take 0 rfl (by kernel_rfl) (by kernel_rfl) (by kernel_rfl) (by repeat (first | exact np_ret | refine np_then ?_ | refine np_in ?_)) rfl rfl (fun w' _ => o_move rfl) hSb ?_
    refine WD_take 1 rfl (by kernel_rfl) (by kernel_rfl) (by kernel_rfl) (by repeat (first | exact np_ret | refine np_then ?_ | refine np_in ?_)) rfl rfl (fun w' _ => o_fieldAddr rfl rfl) hSb ?_
    refine WD_take 2 rfl (by kernel_rfl) (by kernel_rfl) (by kernel_rfl) (by repeat (first | exact np_ret | refine np_then ?_ | refine np_in ?_)) rfl rfl (fun w' hw' => o_load rfl (Blk.fcell hw' rfl)) hSb ?_
    refine WD_take 3 rfl (by kernel_rfl) (by kernel_rfl) (by kernel_rfl) (by repeat (first | exact np_ret | refine np_then ?_ | refine np_in ?_)) rfl rfl (fun w' _ => o_fieldAddr rfl rfl) hSb ?_
    refine WD_take 4 rfl (by kernel_rfl) (by kernel_rfl) (by kernel_rfl) (by repeat (first | exact np_ret | refine np_then ?_ | refine np_in ?_)) rfl rfl (fun w' hw' => o_loadS rfl (Blk.tail1 hw') rfl) hSb ?_
    refine WD_one 5 (by kernel_rfl) rfl ?_
    refine o_call rfl rfl rfl (copyWish_ok hvl hul (by omega)) ?_
    rintro _ w7 ⟨k7, v7, u7, f7, rfl, hrep, hf7⟩
    obtain ⟨A7, n7, c7, B7, m7, d7, rfl, rfl⟩ := wish_form hrep
    have hdm7 := hoa.fresh.dom
    have hown7 := fun c hc => (hoa.lt (b := c) hc).2
    replace hka := hka.keep k7
    have hr7 := Rows.single (R := nodeR) (x := gi E (k : Int)) ⟨_, rfl, hrep⟩
    have z7 := k7.size_le
    replace hoa := hoa.keep k7
    replace hSb := hSb.keep k7
    have s6 := hS.size_le
    refine WL_end ⟨hSb, ?_⟩
    refine WD_take 6 rfl (by kernel_rfl) (by kernel_rfl) (by kernel_rfl) (by repeat (first | exact np_ret | refine np_then ?_ | refine np_in ?_)) rfl rfl (fun w' _ => o_buildT (cs := [.int .i64 (gi E (k : Int)).op, .int .i64 (gi E (k : Int)).wish.kind, .int .i64 (gi E (k : Int)).wish.field, .int .i64 (gi E (k : Int)).wish.value, .slice A7 n7 c7, .slice B7 m7 d7]) rfl rfl) hSb ?_
    refine WD_one 7 (by kernel_rfl) rfl ?_
    refine o_buildSlice rfl rfl rfl rfl rfl (by simp [Value.cells]) (by omega) ?_
    intro b8 w8 hal8
    have hb8 : Blk w8 b8 74 [.int .i64 (gi E (k : Int)).op, .int .i64 (gi E (k : Int)).wish.kind, .int .i64 (gi E (k : Int)).wish.field, .int .i64 (gi E (k : Int)).wish.value, .slice A7 n7 c7, .slice B7 m7 d7] := by simpa [Value.cells] using hal8.blk
    replace hka := hka.keep hal8.kp
    replace hr7 := hr7.keep hal8.kp
    replace hoa := hoa.keep hal8.kp
    replace hSb := hSb.keep hal8.kp
    replace hf7 := hf7.keep hal8.kp
    have hkz := hka.size_le
    have hlt : (E.take k).length ≤ 1048576 := by rw [List.length_take]; omega
    refine WL_end ⟨hSb, ?_⟩
    refine WD_one 8 (by kernel_rfl) rfl ?_
    refine o_appendF (R := nodeR) (M := w6.drew.heap.size) (gi := f7) rfl rfl rfl rfl rfl (by decide) hoa (Blk.src (xs := [gi E (k : Int)]) hb8 hr7) rfl (hf7.mono (by have := s6; omega)) hdm7 hown7 (fun b hb => hf7.ge hb) (by simp only [List.length_cons, List.length_nil]; omega) (by simp only [List.length_cons, List.length_nil]; omega) (by omega) ?_
    intro v9 w9 ho9 hb9 hg9
    have hrow := fun c hc => (hoa.lt (b := c) hc).1
    replace hka := hka.grown hg9 hrow
    replace hSb := hSb.grown hg9 (fun e => by have := hown _ e.symm; omega)
    refine WL_end ⟨hSb, ?_⟩
    refine WD_take 9 rfl (by kernel_rfl) (by kernel_rfl) (by kernel_rfl) (by repeat (first | exact np_ret | refine np_then ?_ | refine np_in ?_)) rfl rfl (fun w' _ => o_assign rfl) hSb ?_
    refine WD_done (by kernel_rfl) ?_
    repeat refine zz ?_
    exact ⟨(k + 1, v9), ⟨rfl, rfl, rfl, rfl, trivial⟩, ⟨hka, by dsimp only; omega, _, by dsimp only; rw [take_gi (by omega)]; exact ho9⟩, by dsimp only; omega⟩
  · simp at hc
    obtain rfl : k = n := by omega
    rw [List.take_of_length_le (show E.length ≤ k by omega)] at hoa
    repeat refine zz ?_
    exact ret1 rfl rfl ⟨hka, fi, hoa⟩

set_option maxHeartbeats 2000000 in
theorem l5Copy_own {w : World} {v : Value} {E : List Nod} {fp : List Nat} (hx : Sl nodeR w v E fp) (hn : E.length + totN E ≤ 1048576) :
    Run Try.prog 48 [v] w (fun r w' => Keep w w' ∧ ∃ fi, OwnF nodeR w' w.heap.size 74 r E fi) := by
  obtain ⟨A, n, c, rfl, hnx⟩ := hx.split
  have hdx := hx.dom
  refine Run_intro Try.func48 (by unfold CallOk; kernel_rfl) rfl Try.ntmps48 (Nat.le_of_ble_eq_true rfl) ?_
  simp only [penv, Nat.reduceAdd, Nat.zero_add]
  repeat refine zz ?_
  refine o_buildSlice rfl rfl rfl rfl rfl (by intro p hp; cases hp) (by omega) ?_
  intro bO wO halO
  have hkO := halO.kp
  have zO := halO.b_eq
  have ho1 : OwnF nodeR wO w.heap.size 74 (.slice (some ⟨bO, 0, none⟩) 0 0) [] [] := OwnF.made halO.blk (by omega)
  repeat refine zz ?_
  refine W_loop (S := Nat × Value) (fun s => [(0, .slice A n c), (3, s.2), (4, .int .i64 (s.1 : Int))]) (fun s w' => Keep w w' ∧ s.1 ≤ n ∧ ∃ fi, OwnF nodeR w' w.heap.size 74 s.2 (E.take s.1) fi) (fun s => n - s.1) (0, _) ⟨rfl, rfl, rfl, trivial⟩ ⟨hkO, Nat.zero_le _, [], by simpa using ho1⟩ ?_
  clear ho1 hkO halO
  rintro ⟨k, va⟩ wa ⟨hka, hk, fi, hoa⟩
  dsimp only at hk hoa ⊢
  have hza := hka.size_le
  have hxa := hx.keep hka
  repeat refine zz ?_
  refine W_cond rfl (fun hc => ?_) (fun hc => ?_)
  · have hkn : k < n := by simp at hc; omega
    obtain ⟨hA, vl, ul, f1, f2, hcell, hvl, hul, _⟩ := node_get hxa (i := (k : Int)) (by omega) (by omega)
    have hle := totN_each (L := E) (k := k) (by omega)
    have ov := hvl.oneCell
    have ou := hul.oneCell
    have hAb : ∀ ad, ea A 6 (k : Int) = some ad → ad.block < w.heap.size := fun ad h => by
      obtain ⟨ad', h1, h2⟩ := ea_block h
      rw [h2]
      exact hdx _ (hx.blocks (by decide) (by omega) ad' h1)
    repeat refine zz ?_
    refine W_draw (fun w' => Cells w' (ea A 6 (k : Int)) [.int .i64 (gi E (k : Int)).op, .int .i64 (gi E (k : Int)).wish.kind, .int .i64 (gi E (k : Int)).wish.field, .int .i64 (gi E (k : Int)).wish.value, vl, ul]) (by kernel_rfl) ?_
    have hS : Keep wa (World.drew wa) := Keep.drew wa
    have hSb := hcell.keep hS
    have hks := ea_some (sz := 6) (i := (k : Int)) hA
    replace hka := hka.keep hS
    replace hoa := hoa.keep hS
    replace hvl := hvl.keep hS
    replace hul := hul.keep hS
    refine WD_take 0 rfl (by kernel_rfl) (by kernel_rfl) (by kernel_rfl) (by repeat (first | exact np_ret | refine np_then ?_ | refine np_in ?_)) rfl rfl (fun w' _ => o_move rfl) hSb ?_
    refine WD_take 1 rfl (by kernel_rfl) (by kernel_rfl) (by kernel_rfl) (by repeat (first | exact np_ret | refine np_then ?_ | refine np_in ?_)) rfl rfl (fun w' _ => o_move rfl) hSb ?_
    refine WD_take 2 rfl (by kernel_rfl) (by kernel_rfl) (by kernel_rfl) (by repeat (first | exact np_ret | refine np_then ?_ | refine np_in ?_)) rfl rfl (fun w' _ => o_move rfl) hSb ?_
    refine WD_take 3 rfl (by kernel_rfl) (by kernel_rfl) (by kernel_rfl) (by repeat (first | exact np_ret | refine np_then ?_ | refine np_in ?_)) rfl rfl (fun w' _ => o_indexAddr rfl rfl hA (by omega) (by omega)) hSb ?_
    refine WD_take 4 rfl (by kernel_rfl) (by kernel_rfl) (by kernel_rfl) (by repeat (first | exact np_ret | refine np_then ?_ | refine np_in ?_)) rfl rfl (fun w' _ => o_fieldAddr rfl hks) hSb ?_
    refine WD_take 5 rfl (by kernel_rfl) (by kernel_rfl) (by kernel_rfl) (by repeat (first | exact np_ret | refine np_then ?_ | refine np_in ?_)) rfl rfl (fun w' hw' => o_load rfl (hw'.at_ rfl)) hSb ?_
    refine WD_take 6 rfl (by kernel_rfl) (by kernel_rfl) (by kernel_rfl) (by repeat (first | exact np_ret | refine np_then ?_ | refine np_in ?_)) rfl rfl (fun w' _ => o_move rfl) hSb ?_
    refine WD_take 7 rfl (by kernel_rfl) (by kernel_rfl) (by kernel_rfl) (by repeat (first | exact np_ret | refine np_then ?_ | refine np_in ?_)) rfl rfl (fun w' _ => o_move rfl) hSb ?_
    refine WD_take 8 rfl (by kernel_rfl) (by kernel_rfl) (by kernel_rfl) (by repeat (first | exact np_ret | refine np_then ?_ | refine np_in ?_)) rfl rfl (fun w' _ => o_indexAddr rfl rfl hA (by omega) (by omega)) hSb ?_
    refine WD_take 9 rfl (by kernel_rfl) (by kernel_rfl) (by kernel_rfl) (by repeat (first | exact np_ret | refine np_then ?_ | refine np_in ?_)) rfl rfl (fun w' _ => o_fieldAddr rfl hks) hSb ?_
    refine WD_take 10 rfl (by kernel_rfl) (by kernel_rfl) (by kernel_rfl) (by repeat (first | exact np_ret | refine np_then ?_ | refine np_in ?_)) rfl rfl (fun w' hw' => o_loadS rfl hw'.tail1 rfl) hSb ?_
    refine WD_one 11 (by kernel_rfl) rfl ?_
    refine o_call rfl rfl rfl (l5Wish_ok hvl hul (by omega)) ?_
    rintro _ w7 ⟨k7, v7, u7, f7, rfl, hrep, hf7⟩
    obtain ⟨A7, n7, c7, B7, m7, d7, rfl, rfl⟩ := wish_form hrep
    have hdm7 := hoa.fresh.dom
    have hown7 := fun c hc => (hoa.lt (b := c) hc).2
    replace hka := hka.keep k7
    have hr7 := Rows.single (R := nodeR) (x := gi E (k : Int)) ⟨_, rfl, hrep⟩
    have z7 := k7.size_le
    replace hoa := hoa.keep k7
    replace hSb := hSb.keep k7
    have s6 := hS.size_le
    refine WL_end ⟨hSb, ?_⟩
    refine WD_take 12 rfl (by kernel_rfl) (by kernel_rfl) (by kernel_rfl) (by repeat (first | exact np_ret | refine np_then ?_ | refine np_in ?_)) rfl rfl (fun w' _ => o_buildT (cs := [.int .i64 (gi E (k : Int)).op, .int .i64 (gi E (k : Int)).wish.kind, .int .i64 (gi E (k : Int)).wish.field, .int .i64 (gi E (k : Int)).wish.value, .slice A7 n7 c7, .slice B7 m7 d7]) rfl rfl) hSb ?_
    refine WD_one 13 (by kernel_rfl) rfl ?_
    refine o_buildSlice rfl rfl rfl rfl rfl (by simp [Value.cells]) (by omega) ?_
    intro b8 w8 hal8
    have hb8 : Blk w8 b8 74 [.int .i64 (gi E (k : Int)).op, .int .i64 (gi E (k : Int)).wish.kind, .int .i64 (gi E (k : Int)).wish.field, .int .i64 (gi E (k : Int)).wish.value, .slice A7 n7 c7, .slice B7 m7 d7] := by simpa [Value.cells] using hal8.blk
    replace hka := hka.keep hal8.kp
    replace hr7 := hr7.keep hal8.kp
    replace hoa := hoa.keep hal8.kp
    replace hSb := hSb.keep hal8.kp
    replace hf7 := hf7.keep hal8.kp
    have hkz := hka.size_le
    have hlt : (E.take k).length ≤ 1048576 := by rw [List.length_take]; omega
    refine WL_end ⟨hSb, ?_⟩
    refine WD_one 14 (by kernel_rfl) rfl ?_
    refine o_appendF (R := nodeR) (M := wa.drew.heap.size) (gi := f7) rfl rfl rfl rfl rfl (by decide) hoa (Blk.src (xs := [gi E (k : Int)]) hb8 hr7) rfl (hf7.mono (by have := s6; omega)) hdm7 hown7 (fun b hb => hf7.ge hb) (by simp only [List.length_cons, List.length_nil]; omega) (by simp only [List.length_cons, List.length_nil]; omega) (by omega) ?_
    intro v9 w9 ho9 hb9 hg9
    have hrow := fun c hc => (hoa.lt (b := c) hc).1
    replace hSb := hSb.grown hg9 (fun ad h => ⟨by have := hAb ad h; omega, fun c hc => by have := hAb ad h; have := hrow c hc; omega⟩)
    replace hka := hka.grown hg9 hrow
    refine WL_end ⟨hSb, ?_⟩
    refine WD_take 15 rfl (by kernel_rfl) (by kernel_rfl) (by kernel_rfl) (by repeat (first | exact np_ret | refine np_then ?_ | refine np_in ?_)) rfl rfl (fun w' _ => o_assign rfl) hSb ?_
    refine WD_done (by kernel_rfl) ?_
    repeat refine zz ?_
    exact ⟨(k + 1, v9), ⟨rfl, rfl, rfl, trivial⟩, ⟨hka, by dsimp only; omega, _, by dsimp only; rw [take_gi (by omega)]; exact ho9⟩, by dsimp only; omega⟩
  · simp at hc
    obtain rfl : k = n := by omega
    rw [List.take_of_length_le (show E.length ≤ k by omega)] at hoa
    repeat refine zz ?_
    exact ret1 rfl rfl ⟨hka, fi, hoa⟩
end Go.E

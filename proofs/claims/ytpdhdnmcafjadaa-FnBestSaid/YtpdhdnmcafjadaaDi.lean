/-
  Contracts: expressions drawn from a cursor. Conditions: as stated.
-/
import Derived.Test.YtpdhdnmcafjadaaDg
set_option linter.unusedVariables false
set_option linter.unusedSimpArgs false
namespace Go.E
open Go Go.RowKit Go.Proofs
theorem Own.srcF {α : Type} {R : Rp α} {w : World} {base : Nat} {el : TypeId} {A : Option Addr} {n c : Nat} {xs : List α} {fi : List Nat} (h : Own R w base el (.slice A n c) xs fi) : Src R w A xs fi := by
  obtain ⟨cells, ⟨hl, h1⟩, h2⟩ := h
  refine ⟨cells, h2, ?_⟩
  rcases h1 with ⟨he, h0⟩ | ⟨b, cap, cur, he, hb, hg, hle, hm, hcs, htk⟩
  · refine .inl ⟨List.eq_nil_of_length_eq_zero (by rw [hl, h0]; simp), List.eq_nil_of_length_eq_zero h0⟩
  · simp only [Value.slice.injEq] at he
    obtain ⟨rfl, rfl, rfl⟩ := he
    refine .inr ⟨_, rfl, fun j u hu => ?_⟩
    rw [add_mk, Nat.zero_add]
    rw [← htk, List.getElem?_take] at hu
    split at hu
    · simp [World.cell?, hg]; simpa using hu
    · cases hu
theorem OwnF.full {α : Type} {R : Rp α} {w : World} {base b : Nat} {el : TypeId} {cs : List Value} {xs : List α} {fi : List Nat} (h : Blk w b el cs) (hr : Rows R w xs cs fi) (hm : xs.length ≤ maxLen) (hb : base ≤ b) (hf : Fresh base w fi) (ho : b ∉ fi) :
    OwnF R w base el (.slice (some ⟨b, 0, none⟩) xs.length xs.length) xs fi :=
  ⟨Own.full h hr hm hb, hf, fun c hc => by simp only [Value.ownBlock, Option.some.injEq] at hc; exact hc ▸ ho⟩
/-- a wish whose lists are the call's own -/
theorem wish_own {w : World} {base : Nat} {tl tp : TypeId} {u v : Value} {x : Wsh} (hL : OwnF intR w base tl u x.list []) (hP : OwnF pairR w base tp v x.pairs []) (hdj : ∀ c, u.ownBlock = some c → v.ownBlock ≠ some c) :
    ∃ f, wishR.rep w x [.int .i64 x.kind, .int .i64 x.field, .int .i64 x.value, u, v] f ∧ Fresh base w f := by
  obtain ⟨f1, s1, _, e1⟩ := hL.own.sl (by decide)
  obtain ⟨f2, s2, _, e2⟩ := hP.own.sl (by decide)
  obtain ⟨g1, t1, r1⟩ := hL.sl (by decide)
  have fr1 : Fresh base w f1 := by
    subst e1
    cases hu : u.ownBlock with
    | none => exact Fresh.nil _ _
    | some c =>
      obtain ⟨cells, ⟨hl, h1⟩, h2⟩ := hL.own
      rcases h1 with ⟨rfl, _⟩ | ⟨b, cap, cur, rfl, hb, hg, _⟩
      · simp [Value.ownBlock] at hu
      · simp only [Value.ownBlock, Option.some.injEq] at hu
        subst hu
        exact Fresh.one (cs := cur.toList) (by simpa [Blk] using hg) hb
  have fr2 : Fresh base w f2 := by
    subst e2
    cases hu : v.ownBlock with
    | none => exact Fresh.nil _ _
    | some c =>
      obtain ⟨cells, ⟨hl, h1⟩, h2⟩ := hP.own
      rcases h1 with ⟨rfl, _⟩ | ⟨b, cap, cur, rfl, hb, hg, _⟩
      · simp [Value.ownBlock] at hu
      · simp only [Value.ownBlock, Option.some.injEq] at hu
        subst hu
        exact Fresh.one (cs := cur.toList) (by simpa [Blk] using hg) hb
  refine ⟨f1 ++ f2, ⟨u, v, f1, f2, rfl, rfl, s1, s2⟩, fr1.append fr2 fun b h1 h2 => ?_⟩
  subst e1; subst e2
  simp at h1 h2
  exact hdj b h1 h2
/-- nodes that are drawn: short lists -/
def smallE (E : List Nod) : Prop := ∀ x, x ∈ E → totW x.wish ≤ 1001
theorem smallE_tot {E : List Nod} (h : smallE E) : totN E ≤ 1001 * E.length := by
  induction E with
  | nil => simp [totN]
  | cons x r ih =>
    have h1 := h x (by simp)
    have h2 := ih fun y hy => h y (List.mem_cons_of_mem _ hy)
    simp only [totN, List.length_cons]; omega
theorem smallE_app {E F : List Nod} (h : smallE E) (k : smallE F) : smallE (E ++ F) := fun y hy => (List.mem_append.1 hy).elim (h y) (k y)
theorem smallE_one {x : Nod} (h : totW x.wish ≤ 1001) : smallE [x] := fun y hy => by rw [List.mem_singleton] at hy; rw [hy]; exact h
theorem Keep.old {w w' : World} (h : Keep w w') {b : Nat} (hb : b < w.heap.size) : w'.heap[b]? = w.heap[b]? := h.block b hb
def opNode (k : Int) : Nod := ⟨k, ⟨0, 0, 0, [], []⟩⟩
theorem op_rows (w : World) (k : Int) : Rows nodeR w [opNode k] [.int .i64 k, .int .i64 0, .int .i64 0, .int .i64 0, .slice none 0 0, .slice none 0 0] [] :=
  Rows.single ⟨_, rfl, _, _, [], [], rfl, rfl, Sl.nil (by omega) _, Sl.nil (by omega) _⟩
theorem smallE_op (k : Int) : smallE [opNode k] := smallE_one (by simp [opNode, totW])
attribute [local irreducible] W WL WD WE thenE inE retQ PureOp Keep Cell Cells Blk Sl Rows Own Src Fresh
attribute [local irreducible] Cur
set_option maxHeartbeats 2000000 in
theorem l5Draw_ok : ∀ (d : Nat), d ≤ 2 → ∀ {w : World} {b : Nat}, Cur w b →
    Run Try.prog 160 [.pointer (some ⟨b, 0, none⟩), .int .i64 (d : Int)] w (fun r w' => ∃ (E : List Nod) (fi : List Nat), OwnF nodeR w' w.heap.size 85 r E fi ∧ E.length + 1 ≤ 2 ^ (d + 1) ∧ 0 < E.length ∧ smallE E ∧ Cur w' b ∧ Wrs w w' [b]) := by
  intro d
  induction d with
  | zero =>
    intro _ w b hc
    have hbl := hc.lt
    have hw : Wrs w w [b] := Wrs.refl _
    refine Run_intro Try.func160 (by unfold CallOk; kernel_rfl) rfl Try.ntmps160 (Nat.le_of_ble_eq_true rfl) ?_
    simp only [penv, Nat.reduceAdd, Nat.zero_add]
    repeat (first|refine z_1 ?_|refine z_2 ?_|refine s_o ?_|refine z_3 ?_|refine z_4 ?_|refine z_5 ?_|refine z_6 ?_|refine z_7 ?_|refine z_8 ?_|refine z_9 ?_|refine z_a ?_|refine z_b ?_|refine z_d ?_|refine z_e ?_|refine z_f ?_|refine z_g ?_|refine z_h ?_|refine z_i ?_|refine z_j ?_|refine s_a ?_|refine s_s ?_|refine s_n ?_|refine s_i ?_|refine s_f ?_|refine s_b ?_|refine s_d ?_|refine s_l1 ?_|refine s_l2 ?_|refine s_l3 ?_|refine s_l4 ?_|refine s_l5 ?_|refine s_l6 ?_|refine s_l7 ?_|refine s_l8 ?_|refine s_l9 ?_|refine s_g ?_|refine s_q ?_|refine s_e ?_|refine s_j ?_)
    refine o_call rfl rfl rfl (l4Wish_ok hc) ?_
    rintro _ wL ⟨x, u, v, rfl, hL, hP, hdj, htw, hcL, hwL⟩
    have hzL := hwL.size
    replace hw := hw.trans hwL
    obtain ⟨f, hr, hf⟩ := wish_own hL hP hdj
    have hdm := hf.dom
    repeat (first|refine z_1 ?_|refine z_2 ?_|refine s_o ?_|refine z_3 ?_|refine z_4 ?_|refine z_5 ?_|refine z_6 ?_|refine z_7 ?_|refine z_8 ?_|refine z_9 ?_|refine z_a ?_|refine z_b ?_|refine z_d ?_|refine z_e ?_|refine z_f ?_|refine z_g ?_|refine z_h ?_|refine z_i ?_|refine z_j ?_|refine s_a ?_|refine s_s ?_|refine s_n ?_|refine s_i ?_|refine s_f ?_|refine s_b ?_|refine s_d ?_|refine s_l1 ?_|refine s_l2 ?_|refine s_l3 ?_|refine s_l4 ?_|refine s_l5 ?_|refine s_l6 ?_|refine s_l7 ?_|refine s_l8 ?_|refine s_l9 ?_|refine s_g ?_|refine s_q ?_|refine s_e ?_|refine s_j ?_)
    refine WL_pure rfl rfl (o_buildT (cs := [.int .i64 0, .int .i64 x.kind, .int .i64 x.field, .int .i64 x.value, u, v]) rfl rfl) ?_
    repeat (first|refine z_1 ?_|refine z_2 ?_|refine s_o ?_|refine z_3 ?_|refine z_4 ?_|refine z_5 ?_|refine z_6 ?_|refine z_7 ?_|refine z_8 ?_|refine z_9 ?_|refine z_a ?_|refine z_b ?_|refine z_d ?_|refine z_e ?_|refine z_f ?_|refine z_g ?_|refine z_h ?_|refine z_i ?_|refine z_j ?_|refine s_a ?_|refine s_s ?_|refine s_n ?_|refine s_i ?_|refine s_f ?_|refine s_b ?_|refine s_d ?_|refine s_l1 ?_|refine s_l2 ?_|refine s_l3 ?_|refine s_l4 ?_|refine s_l5 ?_|refine s_l6 ?_|refine s_l7 ?_|refine s_l8 ?_|refine s_l9 ?_|refine s_g ?_|refine s_q ?_|refine s_e ?_|refine s_j ?_)
    refine o_buildSlice rfl rfl rfl rfl rfl (by simp [Value.cells]) (by omega) ?_
    intro b2 w2 hal2
    have he2 := hal2.b_eq
    have hb2 : Blk w2 b2 85 [.int .i64 0, .int .i64 x.kind, .int .i64 x.field, .int .i64 x.value, u, v] := by simpa [Value.cells] using hal2.blk
    have hfd : b2 ∉ f := fun hm => by have := hdm _ hm; omega
    replace hr := wishR.same hr (fun b hb => hal2.kp.old (hdm b hb))
    replace hf := hf.keep hal2.kp
    replace hw := hw.keepR hal2.kp
    replace hcL := hcL.keep hal2.kp
    repeat (first|refine z_1 ?_|refine z_2 ?_|refine s_o ?_|refine z_3 ?_|refine z_4 ?_|refine z_5 ?_|refine z_6 ?_|refine z_7 ?_|refine z_8 ?_|refine z_9 ?_|refine z_a ?_|refine z_b ?_|refine z_d ?_|refine z_e ?_|refine z_f ?_|refine z_g ?_|refine z_h ?_|refine z_i ?_|refine z_j ?_|refine s_a ?_|refine s_s ?_|refine s_n ?_|refine s_i ?_|refine s_f ?_|refine s_b ?_|refine s_d ?_|refine s_l1 ?_|refine s_l2 ?_|refine s_l3 ?_|refine s_l4 ?_|refine s_l5 ?_|refine s_l6 ?_|refine s_l7 ?_|refine s_l8 ?_|refine s_l9 ?_|refine s_g ?_|refine s_q ?_|refine s_e ?_|refine s_j ?_)
    exact ret1 rfl rfl ⟨[⟨0, x⟩], f, (OwnF.full hb2 (Rows.single (R := nodeR) ⟨_, rfl, hr⟩) (by simp only [List.length_cons, List.length_nil]; decide) (by omega) hf hfd).below (by omega), by simp, by simp, smallE_one (by show totW x ≤ 1001; omega), hcL, hw⟩
  | succ k ih =>
    intro hk2 w b hc
    have hbl := hc.lt
    have hw : Wrs w w [b] := Wrs.refl _
    have hp1 : 2 ≤ 2 ^ (k + 1) := by
      have := Nat.one_le_two_pow (n := k)
      rw [Nat.pow_succ]; omega
    have hp2 : 2 ^ (k + 1) ≤ 4 := by
      rcases (show k = 0 ∨ k = 1 by omega) with rfl | rfl <;> decide
    have hp3 : 2 ^ (k + 1 + 1) = 2 * 2 ^ (k + 1) := by rw [Nat.pow_succ]; omega
    have ek : (((k + 1 : Nat) : Int) - 1) = (k : Int) := by omega
    refine Run_intro Try.func160 (by unfold CallOk; kernel_rfl) rfl Try.ntmps160 (Nat.le_of_ble_eq_true rfl) ?_
    simp only [penv, Nat.reduceAdd, Nat.zero_add]
    repeat (first|refine z_1 ?_|refine z_2 ?_|refine s_o ?_|refine z_3 ?_|refine z_4 ?_|refine z_5 ?_|refine z_6 ?_|refine z_7 ?_|refine z_8 ?_|refine z_9 ?_|refine z_a ?_|refine z_b ?_|refine z_d ?_|refine z_e ?_|refine z_f ?_|refine z_g ?_|refine z_h ?_|refine z_i ?_|refine z_j ?_|refine s_a ?_|refine s_s ?_|refine s_n ?_|refine s_i ?_|refine s_f ?_|refine s_b ?_|refine s_d ?_|refine s_l1 ?_|refine s_l2 ?_|refine s_l3 ?_|refine s_l4 ?_|refine s_l5 ?_|refine s_l6 ?_|refine s_l7 ?_|refine s_l8 ?_|refine s_l9 ?_|refine s_g ?_|refine s_q ?_|refine s_e ?_|refine s_j ?_)
    try (refine WL_part rfl rfl (fun hc => by exfalso; first | (simp at hc; done) | (simp at hc; omega) | omega) (fun _ => ?_))
    repeat (first|refine z_1 ?_|refine z_2 ?_|refine s_o ?_|refine z_3 ?_|refine z_4 ?_|refine z_5 ?_|refine z_6 ?_|refine z_7 ?_|refine z_8 ?_|refine z_9 ?_|refine z_a ?_|refine z_b ?_|refine z_d ?_|refine z_e ?_|refine z_f ?_|refine z_g ?_|refine z_h ?_|refine z_i ?_|refine z_j ?_|refine s_a ?_|refine s_s ?_|refine s_n ?_|refine s_i ?_|refine s_f ?_|refine s_b ?_|refine s_d ?_|refine s_l1 ?_|refine s_l2 ?_|refine s_l3 ?_|refine s_l4 ?_|refine s_l5 ?_|refine s_l6 ?_|refine s_l7 ?_|refine s_l8 ?_|refine s_l9 ?_|refine s_g ?_|refine s_q ?_|refine s_e ?_|refine s_j ?_)
    refine o_call rfl rfl rfl (l1Once_ok hc (by omega)) ?_
    rintro _ w1 ⟨q1, rfl, hc1, hw1⟩
    have hz1 := hw1.size
    replace hw := hw.trans hw1
    clear hc
    have hc := hc1
    clear hc1
    repeat (first|refine z_1 ?_|refine z_2 ?_|refine s_o ?_|refine z_3 ?_|refine z_4 ?_|refine z_5 ?_|refine z_6 ?_|refine z_7 ?_|refine z_8 ?_|refine z_9 ?_|refine z_a ?_|refine z_b ?_|refine z_d ?_|refine z_e ?_|refine z_f ?_|refine z_g ?_|refine z_h ?_|refine z_i ?_|refine z_j ?_|refine s_a ?_|refine s_s ?_|refine s_n ?_|refine s_i ?_|refine s_f ?_|refine s_b ?_|refine s_d ?_|refine s_l1 ?_|refine s_l2 ?_|refine s_l3 ?_|refine s_l4 ?_|refine s_l5 ?_|refine s_l6 ?_|refine s_l7 ?_|refine s_l8 ?_|refine s_l9 ?_|refine s_g ?_|refine s_q ?_|refine s_e ?_|refine s_j ?_)
    refine W_cond rfl (fun hq => ?_) (fun hq => ?_)
    · repeat (first|refine z_1 ?_|refine z_2 ?_|refine s_o ?_|refine z_3 ?_|refine z_4 ?_|refine z_5 ?_|refine z_6 ?_|refine z_7 ?_|refine z_8 ?_|refine z_9 ?_|refine z_a ?_|refine z_b ?_|refine z_d ?_|refine z_e ?_|refine z_f ?_|refine z_g ?_|refine z_h ?_|refine z_i ?_|refine z_j ?_|refine s_a ?_|refine s_s ?_|refine s_n ?_|refine s_i ?_|refine s_f ?_|refine s_b ?_|refine s_d ?_|refine s_l1 ?_|refine s_l2 ?_|refine s_l3 ?_|refine s_l4 ?_|refine s_l5 ?_|refine s_l6 ?_|refine s_l7 ?_|refine s_l8 ?_|refine s_l9 ?_|refine s_g ?_|refine s_q ?_|refine s_e ?_|refine s_j ?_)
      refine o_call rfl rfl rfl (l4Wish_ok hc) ?_
      rintro _ wL ⟨x, u, v, rfl, hL, hP, hdj, htw, hcL, hwL⟩
      have hzL := hwL.size
      replace hw := hw.trans hwL
      obtain ⟨f, hr, hf⟩ := wish_own hL hP hdj
      have hdm := hf.dom
      repeat (first|refine z_1 ?_|refine z_2 ?_|refine s_o ?_|refine z_3 ?_|refine z_4 ?_|refine z_5 ?_|refine z_6 ?_|refine z_7 ?_|refine z_8 ?_|refine z_9 ?_|refine z_a ?_|refine z_b ?_|refine z_d ?_|refine z_e ?_|refine z_f ?_|refine z_g ?_|refine z_h ?_|refine z_i ?_|refine z_j ?_|refine s_a ?_|refine s_s ?_|refine s_n ?_|refine s_i ?_|refine s_f ?_|refine s_b ?_|refine s_d ?_|refine s_l1 ?_|refine s_l2 ?_|refine s_l3 ?_|refine s_l4 ?_|refine s_l5 ?_|refine s_l6 ?_|refine s_l7 ?_|refine s_l8 ?_|refine s_l9 ?_|refine s_g ?_|refine s_q ?_|refine s_e ?_|refine s_j ?_)
      refine WL_pure rfl rfl (o_buildT (cs := [.int .i64 0, .int .i64 x.kind, .int .i64 x.field, .int .i64 x.value, u, v]) rfl rfl) ?_
      repeat (first|refine z_1 ?_|refine z_2 ?_|refine s_o ?_|refine z_3 ?_|refine z_4 ?_|refine z_5 ?_|refine z_6 ?_|refine z_7 ?_|refine z_8 ?_|refine z_9 ?_|refine z_a ?_|refine z_b ?_|refine z_d ?_|refine z_e ?_|refine z_f ?_|refine z_g ?_|refine z_h ?_|refine z_i ?_|refine z_j ?_|refine s_a ?_|refine s_s ?_|refine s_n ?_|refine s_i ?_|refine s_f ?_|refine s_b ?_|refine s_d ?_|refine s_l1 ?_|refine s_l2 ?_|refine s_l3 ?_|refine s_l4 ?_|refine s_l5 ?_|refine s_l6 ?_|refine s_l7 ?_|refine s_l8 ?_|refine s_l9 ?_|refine s_g ?_|refine s_q ?_|refine s_e ?_|refine s_j ?_)
      refine o_buildSlice rfl rfl rfl rfl rfl (by simp [Value.cells]) (by omega) ?_
      intro b2 w2 hal2
      have he2 := hal2.b_eq
      have hb2 : Blk w2 b2 85 [.int .i64 0, .int .i64 x.kind, .int .i64 x.field, .int .i64 x.value, u, v] := by simpa [Value.cells] using hal2.blk
      have hfd : b2 ∉ f := fun hm => by have := hdm _ hm; omega
      replace hr := wishR.same hr (fun b hb => hal2.kp.old (hdm b hb))
      replace hf := hf.keep hal2.kp
      replace hw := hw.keepR hal2.kp
      replace hcL := hcL.keep hal2.kp
      repeat (first|refine z_1 ?_|refine z_2 ?_|refine s_o ?_|refine z_3 ?_|refine z_4 ?_|refine z_5 ?_|refine z_6 ?_|refine z_7 ?_|refine z_8 ?_|refine z_9 ?_|refine z_a ?_|refine z_b ?_|refine z_d ?_|refine z_e ?_|refine z_f ?_|refine z_g ?_|refine z_h ?_|refine z_i ?_|refine z_j ?_|refine s_a ?_|refine s_s ?_|refine s_n ?_|refine s_i ?_|refine s_f ?_|refine s_b ?_|refine s_d ?_|refine s_l1 ?_|refine s_l2 ?_|refine s_l3 ?_|refine s_l4 ?_|refine s_l5 ?_|refine s_l6 ?_|refine s_l7 ?_|refine s_l8 ?_|refine s_l9 ?_|refine s_g ?_|refine s_q ?_|refine s_e ?_|refine s_j ?_)
      exact ret1 rfl rfl ⟨[⟨0, x⟩], f, (OwnF.full hb2 (Rows.single (R := nodeR) ⟨_, rfl, hr⟩) (by simp only [List.length_cons, List.length_nil]; decide) (by omega) hf hfd).below (by omega), by simp only [List.length_cons, List.length_nil]; omega, by simp, smallE_one (by show totW x ≤ 1001; omega), hcL, hw⟩
    repeat (first|refine z_1 ?_|refine z_2 ?_|refine s_o ?_|refine z_3 ?_|refine z_4 ?_|refine z_5 ?_|refine z_6 ?_|refine z_7 ?_|refine z_8 ?_|refine z_9 ?_|refine z_a ?_|refine z_b ?_|refine z_d ?_|refine z_e ?_|refine z_f ?_|refine z_g ?_|refine z_h ?_|refine z_i ?_|refine z_j ?_|refine s_a ?_|refine s_s ?_|refine s_n ?_|refine s_i ?_|refine s_f ?_|refine s_b ?_|refine s_d ?_|refine s_l1 ?_|refine s_l2 ?_|refine s_l3 ?_|refine s_l4 ?_|refine s_l5 ?_|refine s_l6 ?_|refine s_l7 ?_|refine s_l8 ?_|refine s_l9 ?_|refine s_g ?_|refine s_q ?_|refine s_e ?_|refine s_j ?_)
    refine o_call rfl rfl rfl (l1Below_ok hc (by omega)) ?_
    rintro _ w2 ⟨q, rfl, hq0, hq1, hq2, hc2, hw2⟩
    have hz2 := hw2.size
    have hq3 := hq2 (by omega)
    replace hw := hw.trans hw2
    clear hc
    have hc := hc2
    clear hc2
    repeat (first|refine z_1 ?_|refine z_2 ?_|refine s_o ?_|refine z_3 ?_|refine z_4 ?_|refine z_5 ?_|refine z_6 ?_|refine z_7 ?_|refine z_8 ?_|refine z_9 ?_|refine z_a ?_|refine z_b ?_|refine z_d ?_|refine z_e ?_|refine z_f ?_|refine z_g ?_|refine z_h ?_|refine z_i ?_|refine z_j ?_|refine s_a ?_|refine s_s ?_|refine s_n ?_|refine s_i ?_|refine s_f ?_|refine s_b ?_|refine s_d ?_|refine s_l1 ?_|refine s_l2 ?_|refine s_l3 ?_|refine s_l4 ?_|refine s_l5 ?_|refine s_l6 ?_|refine s_l7 ?_|refine s_l8 ?_|refine s_l9 ?_|refine s_g ?_|refine s_q ?_|refine s_e ?_|refine s_j ?_)
    refine W_cond rfl (fun h3 => ?_) (fun h3 => ?_)
    · repeat (first|refine z_1 ?_|refine z_2 ?_|refine s_o ?_|refine z_3 ?_|refine z_4 ?_|refine z_5 ?_|refine z_6 ?_|refine z_7 ?_|refine z_8 ?_|refine z_9 ?_|refine z_a ?_|refine z_b ?_|refine z_d ?_|refine z_e ?_|refine z_f ?_|refine z_g ?_|refine z_h ?_|refine z_i ?_|refine z_j ?_|refine s_a ?_|refine s_s ?_|refine s_n ?_|refine s_i ?_|refine s_f ?_|refine s_b ?_|refine s_d ?_|refine s_l1 ?_|refine s_l2 ?_|refine s_l3 ?_|refine s_l4 ?_|refine s_l5 ?_|refine s_l6 ?_|refine s_l7 ?_|refine s_l8 ?_|refine s_l9 ?_|refine s_g ?_|refine s_q ?_|refine s_e ?_|refine s_j ?_)
      rw [ek]
      refine o_call rfl rfl rfl (ih (by omega) hc) ?_
      rintro _ w3 ⟨E, fi, ho, hl, hl0, hsm, hc3, hw3⟩
      have hz3 := hw3.size
      replace hw := hw.trans hw3
      clear hc
      have hc := hc3
      clear hc3
      obtain ⟨A, n, c, rfl, hnx, _⟩ := ho.split
      repeat (first|refine z_1 ?_|refine z_2 ?_|refine s_o ?_|refine z_3 ?_|refine z_4 ?_|refine z_5 ?_|refine z_6 ?_|refine z_7 ?_|refine z_8 ?_|refine z_9 ?_|refine z_a ?_|refine z_b ?_|refine z_d ?_|refine z_e ?_|refine z_f ?_|refine z_g ?_|refine z_h ?_|refine z_i ?_|refine z_j ?_|refine s_a ?_|refine s_s ?_|refine s_n ?_|refine s_i ?_|refine s_f ?_|refine s_b ?_|refine s_d ?_|refine s_l1 ?_|refine s_l2 ?_|refine s_l3 ?_|refine s_l4 ?_|refine s_l5 ?_|refine s_l6 ?_|refine s_l7 ?_|refine s_l8 ?_|refine s_l9 ?_|refine s_g ?_|refine s_q ?_|refine s_e ?_|refine s_j ?_)
      refine WL_pure rfl rfl (o_buildT rfl rfl) ?_
      repeat (first|refine z_1 ?_|refine z_2 ?_|refine s_o ?_|refine z_3 ?_|refine z_4 ?_|refine z_5 ?_|refine z_6 ?_|refine z_7 ?_|refine z_8 ?_|refine z_9 ?_|refine z_a ?_|refine z_b ?_|refine z_d ?_|refine z_e ?_|refine z_f ?_|refine z_g ?_|refine z_h ?_|refine z_i ?_|refine z_j ?_|refine s_a ?_|refine s_s ?_|refine s_n ?_|refine s_i ?_|refine s_f ?_|refine s_b ?_|refine s_d ?_|refine s_l1 ?_|refine s_l2 ?_|refine s_l3 ?_|refine s_l4 ?_|refine s_l5 ?_|refine s_l6 ?_|refine s_l7 ?_|refine s_l8 ?_|refine s_l9 ?_|refine s_g ?_|refine s_q ?_|refine s_e ?_|refine s_j ?_)
      refine o_buildSlice rfl rfl rfl rfl rfl (by simp [Value.cells]) (by omega) ?_
      intro bN wN halN
      have hzN := halN.size
      replace hw := hw.keepR halN.kp
      replace ho := ho.keep halN.kp
      replace hc := hc.keep halN.kp
      repeat (first|refine z_1 ?_|refine z_2 ?_|refine s_o ?_|refine z_3 ?_|refine z_4 ?_|refine z_5 ?_|refine z_6 ?_|refine z_7 ?_|refine z_8 ?_|refine z_9 ?_|refine z_a ?_|refine z_b ?_|refine z_d ?_|refine z_e ?_|refine z_f ?_|refine z_g ?_|refine z_h ?_|refine z_i ?_|refine z_j ?_|refine s_a ?_|refine s_s ?_|refine s_n ?_|refine s_i ?_|refine s_f ?_|refine s_b ?_|refine s_d ?_|refine s_l1 ?_|refine s_l2 ?_|refine s_l3 ?_|refine s_l4 ?_|refine s_l5 ?_|refine s_l6 ?_|refine s_l7 ?_|refine s_l8 ?_|refine s_l9 ?_|refine s_g ?_|refine s_q ?_|refine s_e ?_|refine s_j ?_)
      refine o_appendF (R := nodeR) (M := _) (gi := []) rfl rfl rfl rfl rfl (by decide) ho (Blk.src (xs := [opNode (1 + q)]) halN.blk (op_rows _ _)) rfl (Fresh.nil _ _) ho.fresh.dom (fun b hb => (ho.lt hb).2) (fun b hb => by simp at hb) (by simp only [List.length_append, List.length_cons, List.length_nil]; omega) (by simp only [List.length_append, List.length_cons, List.length_nil]; omega) (by omega) ?_
      intro vM wM hoM hbM hgM
      have hrow := fun c hc => (ho.lt (b := c) hc).1
      replace hw := hw.grown hgM (fun c hc => by have := hrow c hc; omega)
      replace hc := hc.grown hgM (fun c hc => by have := hrow c hc; omega)
      repeat (first|refine z_1 ?_|refine z_2 ?_|refine s_o ?_|refine z_3 ?_|refine z_4 ?_|refine z_5 ?_|refine z_6 ?_|refine z_7 ?_|refine z_8 ?_|refine z_9 ?_|refine z_a ?_|refine z_b ?_|refine z_d ?_|refine z_e ?_|refine z_f ?_|refine z_g ?_|refine z_h ?_|refine z_i ?_|refine z_j ?_|refine s_a ?_|refine s_s ?_|refine s_n ?_|refine s_i ?_|refine s_f ?_|refine s_b ?_|refine s_d ?_|refine s_l1 ?_|refine s_l2 ?_|refine s_l3 ?_|refine s_l4 ?_|refine s_l5 ?_|refine s_l6 ?_|refine s_l7 ?_|refine s_l8 ?_|refine s_l9 ?_|refine s_g ?_|refine s_q ?_|refine s_e ?_|refine s_j ?_)
      exact ret1 rfl rfl ⟨_, _, hoM.below (by omega), by simp only [List.length_append, List.length_cons, List.length_nil]; omega, by simp only [List.length_append, List.length_cons, List.length_nil]; omega, smallE_app hsm (smallE_op _), hc, hw⟩
    repeat (first|refine z_1 ?_|refine z_2 ?_|refine s_o ?_|refine z_3 ?_|refine z_4 ?_|refine z_5 ?_|refine z_6 ?_|refine z_7 ?_|refine z_8 ?_|refine z_9 ?_|refine z_a ?_|refine z_b ?_|refine z_d ?_|refine z_e ?_|refine z_f ?_|refine z_g ?_|refine z_h ?_|refine z_i ?_|refine z_j ?_|refine s_a ?_|refine s_s ?_|refine s_n ?_|refine s_i ?_|refine s_f ?_|refine s_b ?_|refine s_d ?_|refine s_l1 ?_|refine s_l2 ?_|refine s_l3 ?_|refine s_l4 ?_|refine s_l5 ?_|refine s_l6 ?_|refine s_l7 ?_|refine s_l8 ?_|refine s_l9 ?_|refine s_g ?_|refine s_q ?_|refine s_e ?_|refine s_j ?_)
    rw [ek]
    refine o_call rfl rfl rfl (ih (by omega) hc) ?_
    rintro _ w3 ⟨E, fi, ho, hl, hl0, hsm, hc3, hw3⟩
    have hz3 := hw3.size
    replace hw := hw.trans hw3
    clear hc
    have hc := hc3
    clear hc3
    obtain ⟨A, n, c, rfl, hnx, _⟩ := ho.split
    repeat (first|refine z_1 ?_|refine z_2 ?_|refine s_o ?_|refine z_3 ?_|refine z_4 ?_|refine z_5 ?_|refine z_6 ?_|refine z_7 ?_|refine z_8 ?_|refine z_9 ?_|refine z_a ?_|refine z_b ?_|refine z_d ?_|refine z_e ?_|refine z_f ?_|refine z_g ?_|refine z_h ?_|refine z_i ?_|refine z_j ?_|refine s_a ?_|refine s_s ?_|refine s_n ?_|refine s_i ?_|refine s_f ?_|refine s_b ?_|refine s_d ?_|refine s_l1 ?_|refine s_l2 ?_|refine s_l3 ?_|refine s_l4 ?_|refine s_l5 ?_|refine s_l6 ?_|refine s_l7 ?_|refine s_l8 ?_|refine s_l9 ?_|refine s_g ?_|refine s_q ?_|refine s_e ?_|refine s_j ?_)
    rw [ek]
    refine o_call rfl rfl rfl (ih (by omega) hc) ?_
    rintro _ w4 ⟨F, gi, ho4, hl4, hl40, hsm4, hc4, hw4⟩
    have hz4 := hw4.size
    have hdm := ho.fresh.dom
    have hdo := fun b hb => (ho.lt (b := b) hb).2
    replace hw := hw.trans hw4
    replace ho := ho.wrs hw4 (by omega)
    clear hc
    have hc := hc4
    clear hc4
    obtain ⟨A4, n4, c4, rfl, hnx4, _⟩ := ho4.split
    repeat (first|refine z_1 ?_|refine z_2 ?_|refine s_o ?_|refine z_3 ?_|refine z_4 ?_|refine z_5 ?_|refine z_6 ?_|refine z_7 ?_|refine z_8 ?_|refine z_9 ?_|refine z_a ?_|refine z_b ?_|refine z_d ?_|refine z_e ?_|refine z_f ?_|refine z_g ?_|refine z_h ?_|refine z_i ?_|refine z_j ?_|refine s_a ?_|refine s_s ?_|refine s_n ?_|refine s_i ?_|refine s_f ?_|refine s_b ?_|refine s_d ?_|refine s_l1 ?_|refine s_l2 ?_|refine s_l3 ?_|refine s_l4 ?_|refine s_l5 ?_|refine s_l6 ?_|refine s_l7 ?_|refine s_l8 ?_|refine s_l9 ?_|refine s_g ?_|refine s_q ?_|refine s_e ?_|refine s_j ?_)
    refine o_appendF (R := nodeR) (M := w3.heap.size) (gi := gi) rfl rfl rfl rfl rfl (by decide) ho ho4.own.srcF hnx4 (ho4.fresh.mono (by omega)) hdm hdo (fun b hb => ho4.fresh.ge hb) (by omega) (by omega) (by omega) ?_
    intro v5 w5 ho5 hb5 hg5
    have hrow := fun c hc => (ho.lt (b := c) hc).1
    replace hw := hw.grown hg5 (fun c hc => by have := hrow c hc; omega)
    replace hc := hc.grown hg5 (fun c hc => by have := hrow c hc; omega)
    have hg5z := hg5.size
    clear ho hrow hb5
    have ho := ho5
    obtain ⟨A5, n5, c5, rfl, hnx5, _⟩ := ho.split
    simp only [List.length_append] at hnx5
    repeat (first|refine z_1 ?_|refine z_2 ?_|refine s_o ?_|refine z_3 ?_|refine z_4 ?_|refine z_5 ?_|refine z_6 ?_|refine z_7 ?_|refine z_8 ?_|refine z_9 ?_|refine z_a ?_|refine z_b ?_|refine z_d ?_|refine z_e ?_|refine z_f ?_|refine z_g ?_|refine z_h ?_|refine z_i ?_|refine z_j ?_|refine s_a ?_|refine s_s ?_|refine s_n ?_|refine s_i ?_|refine s_f ?_|refine s_b ?_|refine s_d ?_|refine s_l1 ?_|refine s_l2 ?_|refine s_l3 ?_|refine s_l4 ?_|refine s_l5 ?_|refine s_l6 ?_|refine s_l7 ?_|refine s_l8 ?_|refine s_l9 ?_|refine s_g ?_|refine s_q ?_|refine s_e ?_|refine s_j ?_)
    refine WL_pure rfl rfl (o_buildT rfl rfl) ?_
    repeat (first|refine z_1 ?_|refine z_2 ?_|refine s_o ?_|refine z_3 ?_|refine z_4 ?_|refine z_5 ?_|refine z_6 ?_|refine z_7 ?_|refine z_8 ?_|refine z_9 ?_|refine z_a ?_|refine z_b ?_|refine z_d ?_|refine z_e ?_|refine z_f ?_|refine z_g ?_|refine z_h ?_|refine z_i ?_|refine z_j ?_|refine s_a ?_|refine s_s ?_|refine s_n ?_|refine s_i ?_|refine s_f ?_|refine s_b ?_|refine s_d ?_|refine s_l1 ?_|refine s_l2 ?_|refine s_l3 ?_|refine s_l4 ?_|refine s_l5 ?_|refine s_l6 ?_|refine s_l7 ?_|refine s_l8 ?_|refine s_l9 ?_|refine s_g ?_|refine s_q ?_|refine s_e ?_|refine s_j ?_)
    refine o_buildSlice rfl rfl rfl rfl rfl (by simp [Value.cells]) (by omega) ?_
    intro bN wN halN
    have hzN := halN.size
    replace hw := hw.keepR halN.kp
    replace ho := ho.keep halN.kp
    replace hc := hc.keep halN.kp
    repeat (first|refine z_1 ?_|refine z_2 ?_|refine s_o ?_|refine z_3 ?_|refine z_4 ?_|refine z_5 ?_|refine z_6 ?_|refine z_7 ?_|refine z_8 ?_|refine z_9 ?_|refine z_a ?_|refine z_b ?_|refine z_d ?_|refine z_e ?_|refine z_f ?_|refine z_g ?_|refine z_h ?_|refine z_i ?_|refine z_j ?_|refine s_a ?_|refine s_s ?_|refine s_n ?_|refine s_i ?_|refine s_f ?_|refine s_b ?_|refine s_d ?_|refine s_l1 ?_|refine s_l2 ?_|refine s_l3 ?_|refine s_l4 ?_|refine s_l5 ?_|refine s_l6 ?_|refine s_l7 ?_|refine s_l8 ?_|refine s_l9 ?_|refine s_g ?_|refine s_q ?_|refine s_e ?_|refine s_j ?_)
    refine o_appendF (R := nodeR) (M := _) (gi := []) rfl rfl rfl rfl rfl (by decide) ho (Blk.src (xs := [opNode (1 + q)]) halN.blk (op_rows _ _)) rfl (Fresh.nil _ _) ho.fresh.dom (fun b hb => (ho.lt hb).2) (fun b hb => by simp at hb) (by simp only [List.length_append, List.length_cons, List.length_nil]; omega) (by simp only [List.length_append, List.length_cons, List.length_nil]; omega) (by omega) ?_
    intro vM wM hoM hbM hgM
    have hrow := fun c hc => (ho.lt (b := c) hc).1
    replace hw := hw.grown hgM (fun c hc => by have := hrow c hc; omega)
    replace hc := hc.grown hgM (fun c hc => by have := hrow c hc; omega)
    repeat (first|refine z_1 ?_|refine z_2 ?_|refine s_o ?_|refine z_3 ?_|refine z_4 ?_|refine z_5 ?_|refine z_6 ?_|refine z_7 ?_|refine z_8 ?_|refine z_9 ?_|refine z_a ?_|refine z_b ?_|refine z_d ?_|refine z_e ?_|refine z_f ?_|refine z_g ?_|refine z_h ?_|refine z_i ?_|refine z_j ?_|refine s_a ?_|refine s_s ?_|refine s_n ?_|refine s_i ?_|refine s_f ?_|refine s_b ?_|refine s_d ?_|refine s_l1 ?_|refine s_l2 ?_|refine s_l3 ?_|refine s_l4 ?_|refine s_l5 ?_|refine s_l6 ?_|refine s_l7 ?_|refine s_l8 ?_|refine s_l9 ?_|refine s_g ?_|refine s_q ?_|refine s_e ?_|refine s_j ?_)
    exact ret1 rfl rfl ⟨_, _, hoM.below (by omega), by simp only [List.length_append, List.length_cons, List.length_nil]; omega, by simp only [List.length_append, List.length_cons, List.length_nil]; omega, smallE_app (smallE_app hsm hsm4) (smallE_op _), hc, hw⟩

set_option maxHeartbeats 2000000 in
theorem l5Expression_ok {w : World} {b : Nat} (hc : Cur w b) :
    Run Try.prog 142 [.pointer (some ⟨b, 0, none⟩)] w (fun r w' => ∃ (E : List Nod) (fi : List Nat), OwnF nodeR w' w.heap.size 85 r E fi ∧ E.length ≤ 7 ∧ 0 < E.length ∧ smallE E ∧ Cur w' b ∧ Wrs w w' [b]) := by
  have hbl := hc.lt
  have hw : Wrs w w [b] := Wrs.refl _
  refine Run_intro Try.func142 (by unfold CallOk; kernel_rfl) rfl Try.ntmps142 (Nat.le_of_ble_eq_true rfl) ?_
  simp only [penv, Nat.reduceAdd, Nat.zero_add]
  repeat (first|refine z_1 ?_|refine z_2 ?_|refine s_o ?_|refine z_3 ?_|refine z_4 ?_|refine z_5 ?_|refine z_6 ?_|refine z_7 ?_|refine z_8 ?_|refine z_9 ?_|refine z_a ?_|refine z_b ?_|refine z_d ?_|refine z_e ?_|refine z_f ?_|refine z_g ?_|refine z_h ?_|refine z_i ?_|refine z_j ?_|refine s_a ?_|refine s_s ?_|refine s_n ?_|refine s_i ?_|refine s_f ?_|refine s_b ?_|refine s_d ?_|refine s_l1 ?_|refine s_l2 ?_|refine s_l3 ?_|refine s_l4 ?_|refine s_l5 ?_|refine s_l6 ?_|refine s_l7 ?_|refine s_l8 ?_|refine s_l9 ?_|refine s_g ?_|refine s_q ?_|refine s_e ?_|refine s_j ?_)
  refine o_call rfl rfl rfl (l5Draw_ok 2 (by omega) hc) ?_
  rintro _ w3 ⟨E, fi, ho, hl, hl0, hsm, hc3, hw3⟩
  have hz3 := hw3.size
  replace hw := hw.trans hw3
  obtain ⟨A, n, c, rfl, hnx, _⟩ := ho.split
  repeat (first|refine z_1 ?_|refine z_2 ?_|refine s_o ?_|refine z_3 ?_|refine z_4 ?_|refine z_5 ?_|refine z_6 ?_|refine z_7 ?_|refine z_8 ?_|refine z_9 ?_|refine z_a ?_|refine z_b ?_|refine z_d ?_|refine z_e ?_|refine z_f ?_|refine z_g ?_|refine z_h ?_|refine z_i ?_|refine z_j ?_|refine s_a ?_|refine s_s ?_|refine s_n ?_|refine s_i ?_|refine s_f ?_|refine s_b ?_|refine s_d ?_|refine s_l1 ?_|refine s_l2 ?_|refine s_l3 ?_|refine s_l4 ?_|refine s_l5 ?_|refine s_l6 ?_|refine s_l7 ?_|refine s_l8 ?_|refine s_l9 ?_|refine s_g ?_|refine s_q ?_|refine s_e ?_|refine s_j ?_)
  try (refine W_cond rfl (fun hc => by exfalso; first | (simp at hc; done) | (simp at hc; omega) | omega) (fun _ => ?_))
  repeat (first|refine z_1 ?_|refine z_2 ?_|refine s_o ?_|refine z_3 ?_|refine z_4 ?_|refine z_5 ?_|refine z_6 ?_|refine z_7 ?_|refine z_8 ?_|refine z_9 ?_|refine z_a ?_|refine z_b ?_|refine z_d ?_|refine z_e ?_|refine z_f ?_|refine z_g ?_|refine z_h ?_|refine z_i ?_|refine z_j ?_|refine s_a ?_|refine s_s ?_|refine s_n ?_|refine s_i ?_|refine s_f ?_|refine s_b ?_|refine s_d ?_|refine s_l1 ?_|refine s_l2 ?_|refine s_l3 ?_|refine s_l4 ?_|refine s_l5 ?_|refine s_l6 ?_|refine s_l7 ?_|refine s_l8 ?_|refine s_l9 ?_|refine s_g ?_|refine s_q ?_|refine s_e ?_|refine s_j ?_)
  exact ret1 rfl rfl ⟨E, fi, ho, by omega, hl0, hsm, hc3, hw⟩

end Go.E

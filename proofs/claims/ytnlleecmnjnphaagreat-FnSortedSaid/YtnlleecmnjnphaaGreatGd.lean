/-
  Several of my texts in one: Da Db Dc Dd De Df Dg Dh Di Dj. Conditions: as stated at each.
-/
import Derived.Test.YtnlleecmnjnphaaGreatMrk
import Derived.Test.YtnlleecmnjnphaaGreatGk
import Derived.Test.YtnlleecmnjnphaaGreatTys
import Derived.Test.YtnlleecmnjnphaaGreatL9
import Derived.Test.YtnlleecmnjnphaaGreatIt
import Derived.Test.YtnlleecmnjnphaaGreatBs
import Derived.Test.YtnlleecmnjnphaaGreatSt
import Derived.Test.YtnlleecmnjnphaaGreatAg
import Derived.Test.YtnlleecmnjnphaaGreatWo
import Derived.Test.YtnlleecmnjnphaaGreatRs
set_option linter.unusedVariables false
set_option linter.unusedSimpArgs false
namespace Go.E
open Go Go.RowKit Go.Proofs
section bits
variable {P : Program} {N : Nat} {e : Env} {w : World} {dst : Option Tmp} {x y : Operand} {t t' : TypeId} {ty : TypeId} {pos : String} {af : Array Edge} {g : Option (Nat × Bool)} {a b : Int}
theorem and_le (a b : Int) (h0 : 0 ≤ b) (h1 : b < 9223372036854775808) : ∃ r : Int, 0 ≤ r ∧ r ≤ b ∧ ∀ (P : Program) (w : World), (Op.intBits .and .i64 a b).run P w = .ok (.int .i64 r) w := by
  refine ⟨((BitVec.ofInt 64 a &&& BitVec.ofInt 64 b).toNat : Int), by omega, ?_, fun P w => ?_⟩
  · have hb : (BitVec.ofInt 64 b).toNat = b.toNat := by
      rw [BitVec.toNat_ofInt]; omega
    have := Nat.and_le_right (n := (BitVec.ofInt 64 a).toNat) (m := (BitVec.ofInt 64 b).toNat)
    rw [BitVec.toNat_and]; omega
  · have hb : (BitVec.ofInt 64 b).toNat = b.toNat := by
      rw [BitVec.toNat_ofInt]; omega
    have := Nat.and_le_right (n := (BitVec.ofInt 64 a).toNat) (m := (BitVec.ofInt 64 b).toNat)
    have hw : IntKind.i64.wrap ((BitVec.ofInt 64 a &&& BitVec.ofInt 64 b).toNat : Int) = ((BitVec.ofInt 64 a &&& BitVec.ofInt 64 b).toNat : Int) := wrap_i64 (by omega) (by rw [BitVec.toNat_and]; omega)
    simp only [Op.intBits, Sem.run_pure]
    exact congrArg (fun r => Result.ok (Value.int .i64 r) w) hw
theorem o_and (hx : ev e x = some (.int .i64 a)) (hy : ev e y = some (.int .i64 b)) (h0 : 0 ≤ b) (h1 : b < 9223372036854775808) :
    ∃ r : Int, 0 ≤ r ∧ r ≤ b ∧ ∀ w, PureOp P N e w ⟨dst, .binOp .and t x y t', ty, pos, af, g⟩ (.int .i64 r) := by
  obtain ⟨r, h2, h3, h4⟩ := and_le a b h0 h1
  refine ⟨r, h2, h3, fun w ac ha => ?_⟩
  have := h4 P w
  simp [execOp, ha.ev hx, ha.ev hy, eqGuard, binOp, this]
theorem o_xor (hx : ev e x = some (.int .i64 a)) (hy : ev e y = some (.int .i64 b)) :
    ∃ r : Int, ∀ w, PureOp P N e w ⟨dst, .binOp .xor t x y t', ty, pos, af, g⟩ (.int .i64 r) :=
  ⟨_, fun w ac ha => by simp [execOp, ha.ev hx, ha.ev hy, eqGuard, binOp, Op.intBits]; rfl⟩
theorem o_shr {k : IntKind} (hx : ev e x = some (.int .i64 a)) (hy : ev e y = some (.int k b)) (h0 : 0 ≤ b) :
    ∃ r : Int, ∀ w, PureOp P N e w ⟨dst, .binOp .shr t x y t', ty, pos, af, g⟩ (.int .i64 r) :=
  ⟨_, fun w ac ha => by simp [execOp, ha.ev hx, ha.ev hy, eqGuard, binOp, Op.shift, show ¬ b < 0 by omega]; rfl⟩
end bits
section ex
variable {P : Program} {N : Nat} {ops : Array Oper} {Q : Post} {K : Env → Prop} {C : World → Prop} {rest : List Oper} {e : Env} {w : World} {d : Tmp} {op : Op} {ty : TypeId} {pos : String} {af : Array Edge} {g : Option (Nat × Bool)} {b : Int}
theorem WL_any (h : ∃ r : Int, ∀ w, PureOp P N e w ⟨some d, op, ty, pos, af, g⟩ (.int .i64 r)) (hg : gd ops e g = some true) (hd : Nat.blt d N = true) (k : ∀ r : Int, WL P N ops Q rest ((d, .int .i64 r) :: e) w) :
    WL P N ops Q (⟨some d, op, ty, pos, af, g⟩ :: rest) e w := let ⟨r, h⟩ := h; WL_pure hg hd (h w) (k r)
theorem WQ_any (h : ∃ r : Int, ∀ w, PureOp P N e w ⟨some d, op, ty, pos, af, g⟩ (.int .i64 r)) (hg : gd ops e g = some true) (hd : Nat.blt d N = true) (k : ∀ r : Int, WQ P N ops C K rest ((d, .int .i64 r) :: e)) :
    WQ P N ops C K (⟨some d, op, ty, pos, af, g⟩ :: rest) e := let ⟨r, h⟩ := h; WQ_pure hg hd (fun w' _ => h w') (k r)
theorem WQ_and (h : ∃ r : Int, 0 ≤ r ∧ r ≤ b ∧ ∀ w, PureOp P N e w ⟨some d, op, ty, pos, af, g⟩ (.int .i64 r)) (hg : gd ops e g = some true) (hd : Nat.blt d N = true) (k : ∀ r : Int, 0 ≤ r → r ≤ b → WQ P N ops C K rest ((d, .int .i64 r) :: e)) :
    WQ P N ops C K (⟨some d, op, ty, pos, af, g⟩ :: rest) e := let ⟨r, h1, h2, h⟩ := h; WQ_pure hg hd (fun w' _ => h w') (k r h1 h2)
theorem WL_and (h : ∃ r : Int, 0 ≤ r ∧ r ≤ b ∧ ∀ w, PureOp P N e w ⟨some d, op, ty, pos, af, g⟩ (.int .i64 r)) (hg : gd ops e g = some true) (hd : Nat.blt d N = true) (k : ∀ r : Int, 0 ≤ r → r ≤ b → WL P N ops Q rest ((d, .int .i64 r) :: e) w) :
    WL P N ops Q (⟨some d, op, ty, pos, af, g⟩ :: rest) e w := let ⟨r, h1, h2, h⟩ := h; WL_pure hg hd (h w) (k r h1 h2)
end ex
def u8R : Rp Int where
  sz := 1
  rep _ x cs fp := cs = [.int .u8 x] ∧ fp = []
  len h := by rw [h.1]; rfl
  dom h := by rw [h.2]; simp
  same h _ := h
  one h := by rw [h.1]; simp [Value.oneCell']
end Go.E
set_option linter.unusedVariables false
set_option linter.unusedSimpArgs false
namespace Go.E
open Go Go.RowKit Go.Proofs
theorem Sl.getB {w : World} {A : Option Addr} {n c : Nat} {xs : List Int} {fp : List Nat} (h : Sl u8R w (.slice A n c) xs fp) {i : Int} (h0 : 0 ≤ i) (hi : i < n) :
    A.isSome = true ∧ Cell w (ea A 1 i) (.int .u8 (gi xs i)) := by
  obtain ⟨hA, cs, f, ⟨rfl, _⟩, _, hc⟩ := h.get h0 hi
  refine ⟨hA, ?_⟩
  obtain ⟨ad, h1, h2⟩ := hc
  exact ⟨ad, h1, by have := h2 0 _ rfl; simpa [Addr.add] using this⟩
/-- block b is a cursor over bytes that are kept elsewhere -/
def Cur (w : World) (b : Nat) : Prop := ∃ (A : Option Addr) (n c : Nat) (xs : List Int) (fp : List Nat) (at_ st : Int), Blk w b 81 [.slice A n c, .int .i64 at_, .int .i64 st] ∧ Sl u8R w (.slice A n c) xs fp ∧ n ≤ 9223372036854775807 ∧ (∀ k, k ∈ fp → k < b) ∧ 0 ≤ at_
theorem Cur.keep {w w' : World} {b : Nat} (h : Cur w b) (k : Keep w w') : Cur w' b := by
  obtain ⟨A, n, c, xs, fp, a, st, h1, h2, h3, h4, h5⟩ := h
  exact ⟨A, n, c, xs, fp, a, st, h1.keep k, h2.keep k, h3, h4, h5⟩
attribute [local irreducible] W WL WD WE thenE inE retQ PureOp Keep Cell Cells Blk Sl Rows Own Src Fresh
attribute [local irreducible] Cur

set_option maxHeartbeats 1000000 in
theorem l1Byte_ok {w : World} {b : Nat} (hc : Cur w b) :
    Run Tryz.prog 67 [.pointer (some ⟨b, 0, none⟩)] w (fun r w' => ∃ x : Int, r = .int .i64 x ∧ 0 ≤ x ∧ x ≤ 255 ∧ Cur w' b ∧ Wrs w w' [b]) := by
  unfold Cur at hc
  obtain ⟨A, n, c, xs, fp, at_, st, hb, hx, hn63, hbf, hat⟩ := hc
  refine Run_intro Tryz.func67 (by unfold CallOk; kernel_rfl) rfl Tryz.ntmps67 (Nat.le_of_ble_eq_true rfl) ?_
  simp only [penv, Nat.reduceAdd, Nat.zero_add]
  repeat refine zz ?_
  refine WL_pure rfl rfl (o_nilCheck rfl rfl) ?_
  repeat refine zz ?_
  refine WL_pure rfl rfl (o_arith_w (op := .mul) rfl rfl rfl) ?_
  refine WL_pure rfl rfl (o_arith_w (op := .add) rfl rfl rfl) ?_
  repeat refine zz ?_
  refine WL_pure rfl rfl (o_nilCheck rfl rfl) ?_
  repeat refine zz ?_
  refine o_store1 (b := b) (off := 2) rfl rfl rfl rfl rfl hb (by simp) ?_
  intro w1 hu1
  obtain ⟨st1, hst1⟩ : ∃ s, s = IntKind.i64.wrap (IntKind.i64.wrap (st * 6364136223846793005) + 1442695040888963407) := ⟨_, rfl⟩
  rw [← hst1] at hu1 ⊢
  have hb1 : Blk w1 b 81 [.slice A n c, .int .i64 at_, .int .i64 st1] := hu1.blk
  replace hx := hx.upd hu1 (fun hm => by have := hbf b hm; omega)
  have hw1 : Wrs w w1 [b] := ⟨hu1.os, hu1.tape, hu1.output, by rw [hu1.size]; exact Nat.le_refl _, fun k hk hm => hu1.other k fun e => hm (by simp [e])⟩
  clear hu1 hb
  repeat refine zz ?_
  refine W_quiet (Keep w1) (by kernel_rfl) (by kernel_rfl) (Keep.drew _) ?_
  repeat refine qq ?_
  refine WQ_pure rfl rfl (fun w' _ => o_nilCheck rfl rfl) ?_
  repeat refine qq ?_
  refine WQ_any (o_shr rfl rfl (by decide)) rfl rfl fun r1 => ?_
  repeat refine qq ?_
  refine WQ_pure rfl rfl (fun w' _ => o_nilCheck rfl rfl) ?_
  repeat refine qq ?_
  refine WQ_any (o_shr rfl rfl (by decide)) rfl rfl fun r2 => ?_
  refine WQ_any (o_xor rfl rfl) rfl rfl fun r3 => ?_
  refine WQ_and (o_and rfl rfl (by decide) (by decide)) rfl rfl fun x hx0 hx1 => ?_
  repeat refine qq ?_
  intro w2 hk2 
  replace hb1 := hb1.keep hk2
  replace hx := hx.keep hk2
  replace hw1 := hw1.trans hk2.wrs
  repeat refine zz ?_
  refine W_quiet (Keep w2) (by kernel_rfl) (by kernel_rfl) (Keep.drew _) ?_
  repeat refine qq ?_
  refine WQ_pure rfl rfl (fun w' _ => o_nilCheck rfl rfl) ?_
  repeat refine qq ?_
  refine WQ_pure rfl rfl (fun w' _ => o_nilCheck rfl rfl) ?_
  repeat refine qq ?_
  intro w3 hk3 
  replace hb1 := hb1.keep hk3
  replace hx := hx.keep hk3
  replace hw1 := hw1.trans hk3.wrs
  repeat refine zz ?_
  refine W_cond rfl (fun hd => ?_) (fun hd => ?_)
  · have han : at_ < n := by simpa using hd
    obtain ⟨hA, hcx⟩ := hx.getB (i := at_) (by omega) (by omega)
    repeat refine zz ?_
    refine W_quiet (Keep w3) (by kernel_rfl) (by kernel_rfl) (Keep.drew _) ?_
    repeat refine qq ?_
    refine WQ_pure rfl rfl (fun w' _ => o_nilCheck rfl rfl) ?_
    repeat refine qq ?_
    refine WQ_pure rfl rfl (fun w' _ => o_nilCheck rfl rfl) ?_
    repeat refine qq ?_
    refine WQ_pure rfl rfl (fun w' _ => o_conv inferInstance ⟨.int .u8, by kernel_rfl⟩ rfl) ?_
    refine WQ_pure rfl rfl (fun w' _ => o_arith_w (op := .add) rfl rfl rfl) ?_
    refine WQ_and (o_and rfl rfl (by decide) (by decide)) rfl rfl fun y hy0 hy1 => ?_
    repeat refine qq ?_
    intro w4 hk4 
    replace hb1 := hb1.keep hk4
    replace hx := hx.keep hk4
    replace hw1 := hw1.trans hk4.wrs
    repeat refine zz ?_
    refine WL_pure rfl rfl (o_nilCheck rfl rfl) ?_
    repeat refine zz ?_
    refine WL_pure rfl rfl (o_nilCheck rfl rfl) ?_
    repeat refine zz ?_
    refine o_store1 (b := b) (off := 1) rfl rfl rfl rfl rfl hb1 (by simp) ?_
    intro w5 hu5
    have hb5 : Blk w5 b 81 [.slice A n c, .int .i64 (at_ + 1), .int .i64 st1] := hu5.blk
    replace hx := hx.upd hu5 (fun hm => by have := hbf b hm; omega)
    replace hw1 := hw1.trans ⟨hu5.os, hu5.tape, hu5.output, by rw [hu5.size]; exact Nat.le_refl _, fun k hk hm => hu5.other k fun e => hm (by simp [e])⟩
    repeat refine zz ?_
    exact ret1 rfl rfl ⟨y, rfl, hy0, hy1, by unfold Cur; exact ⟨A, n, c, xs, fp, _, _, hb5, hx, hn63, hbf, by omega⟩, hw1⟩
  · repeat refine zz ?_
    exact ret1 rfl rfl ⟨x, rfl, hx0, hx1, by unfold Cur; exact ⟨A, n, c, xs, fp, _, _, hb1, hx, hn63, hbf, hat⟩, hw1⟩

set_option maxHeartbeats 1000000 in
theorem l1Below_ok {w : World} {b : Nat} (hc : Cur w b) {n : Int} (hn : n ≤ 256) :
    Run Tryz.prog 49 [.pointer (some ⟨b, 0, none⟩), .int .i64 n] w (fun r w' => ∃ x : Int, r = .int .i64 x ∧ 0 ≤ x ∧ x ≤ 255 ∧ (0 < n → x < n) ∧ Cur w' b ∧ Wrs w w' [b]) := by
  refine Run_intro Tryz.func49 (by unfold CallOk; kernel_rfl) rfl Tryz.ntmps49 (Nat.le_of_ble_eq_true rfl) ?_
  simp only [penv, Nat.reduceAdd, Nat.zero_add]
  repeat refine zz ?_
  refine W_cond rfl (fun h0 => ?_) (fun h0 => ?_)
  · simp only [decide_eq_true_eq] at h0
    repeat refine zz ?_
    exact ret1 rfl rfl ⟨0, rfl, by omega, by omega, by omega, hc, Wrs.refl _⟩
  simp only [decide_eq_false_iff_not] at h0
  repeat refine zz ?_
  refine W_cond rfl (fun h1 => ?_) (fun h1 => ?_)
  · repeat refine zz ?_
    refine o_call rfl rfl rfl (l1Byte_ok hc) ?_
    rintro _ w1 ⟨x, rfl, hx0, hx1, hc1, hw1⟩
    repeat refine zz ?_
    refine WL_pure rfl rfl (o_rem rfl rfl (by omega)) ?_
    repeat refine zz ?_
    have h2 := Int.tmod_nonneg n hx0
    have h3 := Int.tmod_lt_of_pos x (show 0 < n by omega)
    exact ret1 rfl rfl ⟨x.tmod n, rfl, h2, by omega, fun _ => h3, hc1, hw1⟩
  · exfalso; simp at h1; omega

theorem l1Once_ok {w : World} {b : Nat} (hc : Cur w b) {n : Int} (hn : n ≤ 256) :
    Run Tryz.prog 65 [.pointer (some ⟨b, 0, none⟩), .int .i64 n] w (fun r w' => ∃ x : Bool, r = .bool x ∧ Cur w' b ∧ Wrs w w' [b]) := by
  refine Run_intro Tryz.func65 (by unfold CallOk; kernel_rfl) rfl Tryz.ntmps65 (Nat.le_of_ble_eq_true rfl) ?_
  simp only [penv, Nat.reduceAdd, Nat.zero_add]
  repeat refine zz ?_
  refine o_call rfl rfl rfl (l1Below_ok hc hn) ?_
  rintro _ w1 ⟨x, rfl, hx0, hx1, _, hc1, hw1⟩
  repeat refine zz ?_
  exact ret1 rfl rfl ⟨_, rfl, hc1, hw1⟩

theorem l1PickInt_ok {w : World} {b : Nat} {v : Value} {xs : List Int} {fp : List Nat} (hc : Cur w b) (hx : Sl intR w v xs fp) (hb : b ∉ fp) (h0 : 0 < xs.length) (h1 : xs.length ≤ 256) :
    Run Tryz.prog 68 [.pointer (some ⟨b, 0, none⟩), v] w (fun r w' => ∃ i : Nat, i < xs.length ∧ r = .int .i64 (gi xs (i : Int)) ∧ Cur w' b ∧ Wrs w w' [b]) := by
  obtain ⟨A, n, c, rfl, hnx⟩ := hx.split
  refine Run_intro Tryz.func68 (by unfold CallOk; kernel_rfl) rfl Tryz.ntmps68 (Nat.le_of_ble_eq_true rfl) ?_
  simp only [penv, Nat.reduceAdd, Nat.zero_add]
  repeat refine zz ?_
  refine o_call rfl rfl rfl (l1Below_ok hc (by omega)) ?_
  rintro _ w1 ⟨x, rfl, hx0, hx1, hx2, hc1, hw1⟩
  have hxn := hx2 (by omega)
  replace hx := hx.wrs hw1 (fun k h1 h2 => hb (by simp at h2; exact h2 ▸ h1))
  obtain ⟨hA, hcx⟩ := hx.getI (i := x) (by omega) (by omega)
  repeat refine zz ?_
  exact ret1 rfl rfl ⟨x.toNat, by omega, by rw [show ((x.toNat : Nat) : Int) = x by omega], hc1, hw1⟩
end Go.E
set_option linter.unusedVariables false
set_option linter.unusedSimpArgs false
namespace Go.E
open Go Go.RowKit Go.Proofs
theorem Own.wrs {α : Type} {R : Rp α} {w w' : World} {base : Nat} {el : TypeId} {v : Value} {xs : List α} {fi : List Nat} (h : Own R w base el v xs fi) {b : Nat} (k : Wrs w w' [b]) (hb : v.ownBlock ≠ some b) (hf : b ∉ fi) : Own R w' base el v xs fi := by
  obtain ⟨cells, h1, h2⟩ := h
  refine ⟨cells, h1.kept (row := some b) ⟨k.os, k.tape, k.output, k.size, fun b' hb' hne => k.other b' hb' fun hm => hne (by simp at hm; rw [hm])⟩ ?_, h2.same fun b' hb' => k.other b' (h2.dom b' hb') fun hm => hf (by simp at hm; exact hm ▸ hb')⟩
  cases hv : v.ownBlock with
  | none => exact .inl rfl
  | some b' => exact .inr (by rw [← hv]; exact hb)
theorem OwnF.wrs {α : Type} {R : Rp α} {w w' : World} {base : Nat} {el : TypeId} {v : Value} {xs : List α} {fi : List Nat} (h : OwnF R w base el v xs fi) {b : Nat} (k : Wrs w w' [b]) (hb : b < base) : OwnF R w' base el v xs fi := by
  have hf : b ∉ fi := fun hm => by have := h.fresh.ge hm; omega
  exact ⟨h.own.wrs k (fun e => by have := (h.lt e).1; omega) hf, h.fresh.wrs k (fun c hc hm => hf (by simp at hm; exact hm ▸ hc)), h.out⟩
theorem Cur.lt {w : World} {b : Nat} (h : Cur w b) : b < w.heap.size := by
  obtain ⟨A, n, c, xs, fp, a, st, h1, _⟩ := h
  exact h1.lt
/-- what a world keeps where a cursor moved: the blocks before base, but the cursor's -/
theorem Wrs.grown {w w' w'' : World} {fp : List Nat} (h : Wrs w w' fp) {row : Option Nat} (k : w'.grownBy w'' row) (hr : ∀ c, row = some c → w.heap.size ≤ c) : Wrs w w'' fp :=
  ⟨k.os.trans h.os, k.tape.trans h.tape, k.output.trans h.output, Nat.le_trans h.size k.size, fun c hc hm => (k.block c (Nat.lt_of_lt_of_le hc h.size) fun e => by have := hr c e.symm; omega).trans (h.other c hc hm)⟩
theorem Wrs.keepR {w w' w'' : World} {fp : List Nat} (h : Wrs w w' fp) (k : Keep w' w'') : Wrs w w'' fp := h.trans k.wrs
theorem Wrs.updN {w w' w'' : World} {fp : List Nat} (h : Wrs w w' fp) {c : Nat} {t : TypeId} {cs : List Value} (k : Upd w' w'' c t cs) (hc : w.heap.size ≤ c) : Wrs w w'' fp :=
  ⟨k.os.trans h.os, k.tape.trans h.tape, k.output.trans h.output, by rw [k.size]; exact h.size, fun d hd hm => (k.other d (by omega)).trans (h.other d hd hm)⟩
theorem Cur.grown {w w' : World} {b : Nat} (h : Cur w b) {row : Option Nat} (k : w.grownBy w' row) (hr : ∀ c, row = some c → b < c) : Cur w' b := by
  obtain ⟨A, n, c, xs, fp, a, st, h1, h2, h3, h4, h5⟩ := h
  exact ⟨A, n, c, xs, fp, a, st, h1.grown k (fun e => by have := hr b e.symm; omega), h2.same fun d hd => k.block d (h2.dom d hd) fun e => by have := hr d e.symm; have := h4 d hd; omega, h3, h4, h5⟩
theorem Cur.upd {w w' : World} {b c : Nat} {t : TypeId} {cs : List Value} (h : Cur w b) (k : Upd w w' c t cs) (hr : b < c) : Cur w' b := by
  obtain ⟨A, n, c', xs, fp, a, st, h1, h2, h3, h4, h5⟩ := h
  exact ⟨A, n, c', xs, fp, a, st, h1.upd k (by omega), h2.upd k (fun hm => by have := h4 c hm; omega), h3, h4, h5⟩
attribute [local irreducible] W WL WD WE thenE inE retQ PureOp Keep Cell Cells Blk Sl Rows Own Src Fresh
attribute [local irreducible] Cur

set_option maxHeartbeats 1000000 in
theorem l1New_ok {w : World} {v : Value} {xs : List Int} {fp : List Nat} (hx : Sl u8R w v xs fp) (hn : xs.length ≤ 1048576) :
    Run Tryz.prog 47 [v] w (fun r w' => ∃ b : Nat, r = .pointer (some ⟨b, 0, none⟩) ∧ w.heap.size ≤ b ∧ Cur w' b ∧ Keep w w') := by
  have hdx := hx.dom
  have hx63 := hx.le
  obtain ⟨A, n, c, rfl, hnx⟩ := hx.split
  refine Run_intro Tryz.func47 (by unfold CallOk; kernel_rfl) rfl Tryz.ntmps47 (Nat.le_of_ble_eq_true rfl) ?_
  simp only [penv, Nat.reduceAdd, Nat.zero_add]
  repeat refine zz ?_
  refine W_loop (S := Nat × Int) (fun s => [(0, .slice A n c), (3, .int .i64 s.2), (4, .int .i64 (s.1 : Int))]) (fun s w' => Keep w w' ∧ s.1 ≤ n) (fun s => n - s.1) (0, _) ⟨rfl, rfl, find_int rfl (by dsimp only; omega), trivial⟩ ⟨Keep.refl _, Nat.zero_le _⟩ ?_
  rintro ⟨k, s⟩ wa ⟨hka, hkn⟩
  dsimp only at hkn ⊢
  have hxa := hx.keep hka
  repeat refine zz ?_
  refine WL_part rfl rfl (fun hc => ?_) (fun hc => ?_)
  · have hkl : k < n := by simp at hc; omega
    refine s_o ?_
    refine WL_pure rfl rfl (o_lss rfl rfl) ?_
    obtain ⟨q, hq⟩ : ∃ q, q = decide ((k : Int) < 4000) := ⟨_, rfl⟩
    rw [← hq]
    repeat refine zz ?_
    refine W_cond rfl (fun hc2 => ?_) (fun hc2 => ?_)
    · obtain ⟨hA, hcx⟩ := hxa.getB (i := (k : Int)) (by omega) (by omega)
      repeat refine zz ?_
      refine WL_pure rfl rfl (o_arith_w (op := .mul) rfl rfl rfl) ?_
      repeat refine zz ?_
      refine WL_pure rfl rfl (o_conv inferInstance ⟨.int .u8, by kernel_rfl⟩ rfl) ?_
      refine WL_pure rfl rfl (o_arith_w (op := .add) rfl rfl rfl) ?_
      refine WL_pure rfl rfl (o_arith_w (op := .add) rfl rfl rfl) ?_
      refine WL_and (o_and rfl rfl (by decide) (by decide)) rfl rfl fun y hy0 hy1 => ?_
      repeat refine zz ?_
      exact ⟨(k + 1, y), ⟨rfl, rfl, find_int rfl (by dsimp only; omega), trivial⟩, ⟨hka, by dsimp only; omega⟩, by dsimp only; omega⟩
    · repeat refine zz ?_
      refine WL_pure rfl rfl (o_buildT (cs := [.slice A n c, .int .i64 0, .int .i64 s]) rfl rfl) ?_
      refine o_boxS rfl rfl rfl ?_
      intro b w2 hal
      repeat refine zz ?_
      exact ret1 rfl rfl ⟨b, rfl, by have := hal.b_eq; have := hka.size_le; omega, by unfold Cur; exact ⟨A, n, c, xs, fp, 0, s, hal.blk, hxa.keep hal.kp, by omega, fun d hd => by have := hdx d hd; have := hal.b_eq; have := hka.size_le; omega, by omega⟩, hka.keep hal.kp⟩
  · repeat refine zz ?_
    refine WL_pure rfl rfl (o_buildT (cs := [.slice A n c, .int .i64 0, .int .i64 s]) rfl rfl) ?_
    refine o_boxS rfl rfl rfl ?_
    intro b w2 hal
    repeat refine zz ?_
    exact ret1 rfl rfl ⟨b, rfl, by have := hal.b_eq; have := hka.size_le; omega, by unfold Cur; exact ⟨A, n, c, xs, fp, 0, s, hal.blk, hxa.keep hal.kp, by omega, fun d hd => by have := hdx d hd; have := hal.b_eq; have := hka.size_le; omega, by omega⟩, hka.keep hal.kp⟩

set_option maxHeartbeats 1000000 in
theorem l2Item_ok {w : World} {b : Nat} (hc : Cur w b) {id m : Int} (hm : m ≤ 256) :
    Run Tryz.prog 88 [.pointer (some ⟨b, 0, none⟩), .int .i64 id, .int .i64 m] w (fun r w' => ∃ (u : Value) (xs : List Int), r = .agg #[.int .i64 id, u] ∧ OwnF intR w' w.heap.size 3 u xs [] ∧ xs.length = 3 ∧ Cur w' b ∧ Wrs w w' [b]) := by
  have hbl := hc.lt
  refine Run_intro Tryz.func88 (by unfold CallOk; kernel_rfl) rfl Tryz.ntmps88 (Nat.le_of_ble_eq_true rfl) ?_
  simp only [penv, Nat.reduceAdd, Nat.zero_add]
  repeat refine zz ?_
  refine o_alloc rfl rfl ?_
  intro b6 w1 hal6
  have hb6 := hal6.blk
  have he6 := hal6.b_eq
  have hz6 := hal6.size
  have hw : Wrs w w1 [b] := hal6.kp.wrs
  replace hc := hc.keep hal6.kp
  repeat refine zz ?_
  refine WL_pure rfl rfl (o_buildT (cs := [.int .i64 id, .slice none 0 0]) rfl rfl) ?_
  repeat refine zz ?_
  refine o_alloc rfl rfl ?_
  intro b7 w2 hal7
  have hb7 := hal7.blk
  have he7 := hal7.b_eq
  have hz7 := hal7.size
  replace hw := hw.keepR hal7.kp
  replace hc := hc.keep hal7.kp
  replace hb6 := hb6.keep hal7.kp
  repeat refine zz ?_
  refine o_storeS (b := b7) (off := 0) rfl rfl rfl rfl (by repeat (first | exact ones_nil | refine ones_cons (by first | rfl | assumption) ?_)) rfl hb7 (by simp) ?_
  intro w3 hu3
  have hb7' : Blk w3 b7 45 [.int .i64 id, .slice none 0 0] := hu3.blk
  have hz3 := hu3.size
  replace hw := hw.updN hu3 (by omega)
  replace hc := hc.upd hu3 (by omega)
  replace hb6 := hb6.upd hu3 (by omega)
  have ho : OwnF intR w3 w3.heap.size 3 (.slice none 0 0) [] [] := OwnF.none_ _ _ _
  repeat refine zz ?_
  refine W_loop (S := Nat × Value × List Int) (fun s => [(0, .pointer (some ⟨b, 0, none⟩)), (2, .int .i64 m), (6, .pointer (some ⟨b6, 0, none⟩)), (7, .pointer (some ⟨b7, 0, none⟩)), (8, .int .i64 (s.1 : Int))]) (fun s w' => Wrs w w' [b] ∧ Cur w' b ∧ (s.1 ≤ 3 ∧ w3.heap.size ≤ w'.heap.size) ∧ Blk w' b6 45 [.int .i64 0, .slice none 0 0] ∧ Blk w' b7 45 [.int .i64 id, s.2.1] ∧ s.2.2.length = s.1 ∧ OwnF intR w' w3.heap.size 3 s.2.1 s.2.2 []) (fun s => 3 - s.1) (0, _, []) ⟨rfl, rfl, rfl, rfl, find_int rfl (by dsimp only; omega), trivial⟩ ⟨hw, hc, ⟨by omega, Nat.le_refl _⟩, hb6, hb7', rfl, ho⟩ ?_
  clear hw hc hb6 hb7 hb7' ho hu3
  rintro ⟨k, va, xs⟩ wa ⟨hwa, hca, ⟨hk3, hz3a⟩, hb6, hb7, hxl, hoa⟩
  dsimp only at hk3 hb6 hb7 hxl hoa ⊢
  have hza := hwa.size
  obtain ⟨Av, nv, cv, rfl, hnv, _⟩ := hoa.split
  repeat refine zz ?_
  refine W_cond rfl (fun hd => ?_) (fun hd => ?_)
  · have hkl : k < 3 := by simp at hd; omega
    repeat refine zz ?_
    refine o_call rfl rfl rfl (l1Below_ok hca hm) ?_
    rintro _ w4 ⟨x, rfl, hx0, hx1, _, hc4, hw4⟩
    have hz4 := hw4.size
    replace hwa := hwa.trans hw4
    replace hoa := hoa.wrs hw4 (by omega)
    replace hb6 := hb6.wrs hw4 (by simp; omega)
    replace hb7 := hb7.wrs hw4 (by simp; omega)
    repeat refine zz ?_
    refine o_buildSlice rfl rfl rfl rfl rfl (by simp [Value.cells]) (by omega) ?_
    intro b5 w5 hal5
    have hz5 := hal5.size
    replace hwa := hwa.keepR hal5.kp
    replace hoa := hoa.keep hal5.kp
    replace hb6 := hb6.keep hal5.kp
    replace hb7 := hb7.keep hal5.kp
    replace hc4 := hc4.keep hal5.kp
    repeat refine zz ?_
    refine o_appendF (R := intR) (M := _) (gi := []) rfl rfl rfl rfl rfl (by decide) hoa (Blk.src (xs := [x]) hal5.blk (Rows.ints _ _)) rfl (Fresh.nil _ _) (fun b hb => by simp at hb) (fun b hb => (hoa.lt hb).2) (fun b hb => by simp at hb) (by simp only [List.length_cons, List.length_nil]; omega) (by simp only [List.length_cons, List.length_nil]; omega) (by omega) ?_
    intro vN wN hoN hbN hgN
    have hrow : ∀ c, (Value.slice Av nv cv).ownBlock = some c → w3.heap.size ≤ c := fun c hc => (hoa.lt hc).1
    replace hwa := hwa.grown hgN (fun c hc => by have := hrow c hc; omega)
    replace hc4 := hc4.grown hgN (fun c hc => by have := hrow c hc; omega)
    replace hb6 := hb6.grown hgN (fun e => by have := hrow _ e.symm; omega)
    replace hb7 := hb7.grown hgN (fun e => by have := hrow _ e.symm; omega)
    obtain ⟨A', n', c', rfl, _⟩ := hoN.split
    repeat refine zz ?_
    refine o_store1 (b := b7) (off := 1) rfl rfl rfl rfl rfl hb7 (by simp) ?_
    intro w6 hu6
    have hb7n : Blk w6 b7 45 [.int .i64 id, .slice A' n' c'] := hu6.blk
    repeat refine zz ?_
    exact ⟨(k + 1, _, xs ++ [x]), ⟨rfl, rfl, rfl, rfl, find_int rfl (by dsimp only; omega), trivial⟩, ⟨hwa.updN hu6 (by omega), hc4.upd hu6 (by omega), ⟨by dsimp only; omega, by have := hgN.size; have := hu6.size; omega⟩, hb6.upd hu6 (by omega), hb7n, by simp [hxl], hoN.upd hu6 (fun e => by have := (hoN.lt e).1; omega) (by simp)⟩, by dsimp only; omega⟩
  · have hk : k = 3 := by simp at hd; omega
    repeat refine zz ?_
    refine o_storeS (b := b6) (off := 0) rfl rfl rfl rfl (by repeat (first | exact ones_nil | refine ones_cons (by first | rfl | assumption) ?_)) rfl hb6 (by simp) ?_
    intro w7 hu7
    have hb6' : Blk w7 b6 45 [.int .i64 id, .slice Av nv cv] := hu7.blk
    repeat refine zz ?_
    exact retc rfl rfl hb6'.cells rfl ⟨_, xs, rfl, (hoa.upd hu7 (fun e => by have := (hoa.lt e).1; omega) (by simp)).below (by omega), by omega, hca.upd hu7 (by omega), hwa.updN hu7 (by omega)⟩
end Go.E
set_option linter.unusedVariables false
set_option linter.unusedSimpArgs false
namespace Go.E
open Go Go.RowKit Go.Proofs
/-- items that are drawn: short lists of numbers -/
def small (L : List Itm) : Prop := ∀ x, x ∈ L → x.vals.length ≤ 4
theorem small_tot {L : List Itm} (h : small L) : totI L ≤ 4 * L.length := by
  induction L with
  | nil => simp [totI]
  | cons x r ih =>
    have h1 := h x (by simp)
    have h2 := ih fun y hy => h y (List.mem_cons_of_mem _ hy)
    simp only [totI, List.length_cons]; omega
theorem small_snoc {L : List Itm} {x : Itm} (h : small L) (hx : x.vals.length ≤ 4) : small (L ++ [x]) := fun y hy => by
  rcases List.mem_append.1 hy with hy | hy
  · exact h y hy
  · rw [List.mem_singleton] at hy; rw [hy]; exact hx
attribute [local irreducible] W WL WD WE thenE inE retQ PureOp Keep Cell Cells Blk Sl Rows Own Src Fresh
attribute [local irreducible] Cur

set_option maxHeartbeats 1000000 in
theorem l2Items_ok {w : World} {b : Nat} (hc : Cur w b) {m : Int} (h0 : 0 ≤ m) (hm : m ≤ 100) :
    Run Tryz.prog 64 [.pointer (some ⟨b, 0, none⟩), .int .i64 m] w (fun r w' => ∃ (L : List Itm) (fi : List Nat), OwnF itemR w' w.heap.size 45 r L fi ∧ L.length ≤ 100 ∧ small L ∧ Cur w' b ∧ Wrs w w' [b]) := by
  have hbl := hc.lt
  refine Run_intro Tryz.func64 (by unfold CallOk; kernel_rfl) rfl Tryz.ntmps64 (Nat.le_of_ble_eq_true rfl) ?_
  simp only [penv, Nat.reduceAdd, Nat.zero_add]
  repeat refine zz ?_
  refine o_buildSlice rfl rfl rfl rfl rfl (by intro p hp; cases hp) (by omega) ?_
  intro bO wO halO
  have hkO := halO.kp
  have heO := halO.b_eq
  have hzO := halO.size
  have hw : Wrs w wO [b] := hkO.wrs
  replace hc := hc.keep hkO
  have ho : OwnF itemR wO w.heap.size 45 (.slice (some ⟨bO, 0, none⟩) 0 0) [] [] := OwnF.made halO.blk (by omega)
  repeat refine zz ?_
  refine o_buildSlice rfl rfl rfl rfl rfl (by simp [Value.cells]) (by omega) ?_
  intro b2 w2 hal2
  have he2 := hal2.b_eq
  have hz2 := hal2.size
  replace hw := hw.keepR hal2.kp
  replace hc := hc.keep hal2.kp
  replace ho := ho.keep hal2.kp
  have hs2 : Sl intR w2 (.slice (some ⟨b2, 0, none⟩) 3 3) [2, 4, 10] [b2] := Sl.ofInts (xs := [2, 4, 10]) hal2.blk (fun i hi => by
    rcases (show i = 0 ∨ i = 1 ∨ i = 2 by simp at hi; omega) with rfl | rfl | rfl <;> rfl) rfl (Nat.le_refl _)
  repeat refine zz ?_
  refine o_call rfl rfl rfl (l1PickInt_ok hc hs2 (by simp; omega) (by simp) (by simp)) ?_
  rintro _ w3 ⟨i3, hi3, rfl, hc3, hw3⟩
  have hm3 : gi ([2, 4, 10] : List Int) (i3 : Int) ≤ 256 := by
    rcases (show i3 = 0 ∨ i3 = 1 ∨ i3 = 2 by simp at hi3; omega) with rfl | rfl | rfl <;> decide
  have hz3 := hw3.size
  replace hw := hw.trans hw3
  replace ho := ho.wrs hw3 (by omega)
  repeat refine zz ?_
  refine o_call rfl rfl rfl (l1Below_ok hc3 (by omega)) ?_
  rintro _ w4 ⟨x4, rfl, hx40, hx41, hx42, hc4, hw4⟩
  have hx43 := hx42 (by omega)
  have hz4 := hw4.size
  replace hw := hw.trans hw4
  replace ho := ho.wrs hw4 (by omega)
  repeat refine zz ?_
  refine o_call rfl rfl rfl (l1Below_ok hc4 (by omega)) ?_
  rintro _ w5 ⟨x5, rfl, hx50, hx51, hx52, hc5, hw5⟩
  have hx53 := hx52 (by omega)
  have hz5 := hw5.size
  replace hw := hw.trans hw5
  replace ho := ho.wrs hw5 (by omega)
  generalize gi ([2, 4, 10] : List Int) (i3 : Int) = mx at hm3 ⊢
  repeat refine zz ?_
  refine W_loop (S := Nat × Int × Value × List Itm) (fun s => [(0, .pointer (some ⟨b, 0, none⟩)), (5, s.2.2.1), (6, .int .i64 mx), (7, .int .i64 s.2.1), (8, .int .i64 (x5 - (s.1 : Int)))]) (fun s w' => Wrs w w' [b] ∧ Cur w' b ∧ ((s.1 : Int) ≤ x5 ∧ 0 ≤ s.2.1 ∧ s.2.1 ≤ 3 + 2 * (s.1 : Int) ∧ s.2.2.2.length = s.1 ∧ small s.2.2.2) ∧ ∃ fi, OwnF itemR w' w.heap.size 45 s.2.2.1 s.2.2.2 fi) (fun s => (x5 - (s.1 : Int)).toNat) (0, x4, _, []) ⟨rfl, rfl, rfl, rfl, find_int rfl (by dsimp only; omega), trivial⟩ ⟨hw, hc5, ⟨by dsimp only; omega, by dsimp only; omega, by dsimp only; omega, rfl, fun x hx => by cases hx⟩, [], ho⟩ ?_
  clear hw hc5 ho hs2 hc3 hc4 hc hw3 hw4 hw5
  rintro ⟨k, id, va, L⟩ wa ⟨hwa, hca, ⟨hkx, hid0, hid1, hLl, hsm⟩, fi, hoa⟩
  dsimp only at hkx hid0 hid1 hLl hsm hoa ⊢
  have hza := hwa.size
  repeat refine zz ?_
  refine W_cond rfl (fun hd => ?_) (fun hd => ?_)
  · have hkl : (k : Int) < x5 := by simp at hd; omega
    repeat refine zz ?_
    refine o_call rfl rfl rfl (l2Item_ok hca (id := id) hm3) ?_
    rintro _ w6 ⟨u6, xs6, rfl, ho6, hl6, hc6, hw6⟩
    obtain ⟨f6, hs6, hf6⟩ := ho6.sl (by decide)
    have hdm := hoa.fresh.dom
    have hdo := fun b hb => (hoa.lt (b := b) hb).2
    have hz6 := hw6.size
    replace hwa := hwa.trans hw6
    replace hoa := hoa.wrs hw6 (by omega)
    have o6 := hs6.oneCell
    repeat refine zz ?_
    refine o_buildSlice rfl rfl rfl rfl rfl (by simp [Value.cells]) (by omega) ?_
    intro b7 w7 hal7
    have hb7 : Blk w7 b7 45 [.int .i64 id, u6] := by simpa [Value.cells] using hal7.blk
    have hz7 := hal7.size
    replace hwa := hwa.keepR hal7.kp
    replace hoa := hoa.keep hal7.kp
    replace hs6 := hs6.keep hal7.kp
    replace hf6 := hf6.keep hal7.kp
    replace hc6 := hc6.keep hal7.kp
    repeat refine zz ?_
    refine o_appendF (R := itemR) (M := wa.heap.size) (gi := f6) rfl rfl rfl rfl rfl (by decide) hoa (Blk.src (xs := [(⟨id, xs6⟩ : Itm)]) hb7 (Rows.single (R := itemR) ⟨u6, rfl, hs6⟩)) rfl (hf6.mono (by omega)) hdm hdo (fun b hb => hf6.ge hb) (by simp only [List.length_cons, List.length_nil]; omega) (by simp only [List.length_cons, List.length_nil]; omega) (by omega) ?_
    intro v8 w8 ho8 hb8 hg8
    have hrow : ∀ c, va.ownBlock = some c → w.heap.size ≤ c := fun c hc => (hoa.lt hc).1
    replace hwa := hwa.grown hg8 hrow
    replace hc6 := hc6.grown hg8 (fun c hc => by have := hrow c hc; omega)
    repeat refine zz ?_
    refine o_call rfl rfl rfl (l1Below_ok hc6 (by omega)) ?_
    rintro _ w9 ⟨x9, rfl, hx90, hx91, hx92, hc9, hw9⟩
    have hx93 := hx92 (by omega)
    replace hwa := hwa.trans hw9
    replace ho8 := ho8.wrs hw9 (by omega)
    repeat refine zz ?_
    exact ⟨(k + 1, id + 1 + x9, v8, L ++ [⟨id, xs6⟩]), ⟨rfl, rfl, rfl, rfl, find_int rfl (by dsimp only; omega), trivial⟩, ⟨hwa, hc9, ⟨by dsimp only; omega, by dsimp only; omega, by dsimp only; omega, by simp [hLl], small_snoc hsm (by show xs6.length ≤ 4; omega)⟩, _, ho8⟩, by dsimp only; omega⟩
  · repeat refine zz ?_
    exact ret1 rfl rfl ⟨L, fi, hoa, by omega, hsm, hca, hwa⟩
end Go.E
set_option linter.unusedVariables false
set_option linter.unusedSimpArgs false
namespace Go.E
open Go Go.RowKit Go.Proofs
attribute [local irreducible] W WL WD WE thenE inE retQ PureOp Keep Cell Cells Blk Sl Rows Own Src Fresh
attribute [local irreducible] Cur

set_option maxHeartbeats 1000000 in
theorem l2AnyItem_ok {w : World} {b : Nat} (hc : Cur w b) :
    Run Tryz.prog 66 [.pointer (some ⟨b, 0, none⟩)] w (fun r w' => ∃ (id : Int) (u : Value) (xs : List Int), r = .agg #[.int .i64 id, u] ∧ OwnF intR w' w.heap.size 3 u xs [] ∧ xs.length ≤ 4 ∧ Cur w' b ∧ Wrs w w' [b]) := by
  have hbl := hc.lt
  refine Run_intro Tryz.func66 (by unfold CallOk; kernel_rfl) rfl Tryz.ntmps66 (Nat.le_of_ble_eq_true rfl) ?_
  simp only [penv, Nat.reduceAdd, Nat.zero_add]
  repeat refine zz ?_
  refine o_alloc rfl rfl ?_
  intro b2 w1 hal2
  have hb2 := hal2.blk
  have he2 := hal2.b_eq
  have hz2 := hal2.size
  have hw : Wrs w w1 [b] := hal2.kp.wrs
  replace hc := hc.keep hal2.kp
  repeat refine zz ?_
  refine o_call rfl rfl rfl (l1Below_ok hc (by omega)) ?_
  rintro _ w2 ⟨id, rfl, hi0, hi1, _, hc2, hw2⟩
  have hz22 := hw2.size
  replace hw := hw.trans hw2
  replace hb2 := hb2.wrs hw2 (by simp; omega)
  repeat refine zz ?_
  refine o_call rfl rfl rfl (l2Item_ok hc2 (id := id) (by omega)) ?_
  rintro _ w3 ⟨u, xs, rfl, ho, hl, hc3, hw3⟩
  have hz33 := hw3.size
  replace hw := hw.trans hw3
  replace hb2 := hb2.wrs hw3 (by simp; omega)
  obtain ⟨Au, nu, cu, rfl, hnu, _⟩ := ho.split
  have hown : ∀ c, (Value.slice Au nu cu).ownBlock = some c → c < w3.heap.size := fun c hc => (ho.lt hc).2
  repeat refine zz ?_
  refine o_alloc rfl rfl ?_
  intro b3 w4 hal3
  have hb3 := hal3.blk
  have he3 := hal3.b_eq
  have hz3 := hal3.size
  replace hw := hw.keepR hal3.kp
  replace hc3 := hc3.keep hal3.kp
  replace hb2 := hb2.keep hal3.kp
  replace ho := ho.keep hal3.kp
  repeat refine zz ?_
  refine o_storeS (b := b3) (off := 0) rfl rfl rfl rfl (by repeat (first | exact ones_nil | refine ones_cons (by first | rfl | assumption) ?_)) rfl hb3 (by simp) ?_
  intro w5 hu5
  have hb3' : Blk w5 b3 45 [.int .i64 id, .slice Au nu cu] := hu5.blk
  have hz5 := hu5.size
  replace hw := hw.updN hu5 (by omega)
  replace hc3 := hc3.upd hu5 (by omega)
  replace hb2 := hb2.upd hu5 (by omega)
  replace ho := ho.upd hu5 (fun e => by have := hown _ e; omega) (by simp)
  clear hu5 hb3
  repeat refine zz ?_
  refine o_call rfl rfl rfl (l1Below_ok hc3 (by omega)) ?_
  rintro _ w6 ⟨q, rfl, hq0, hq1, _, hc6, hw6⟩
  have hz6 := hw6.size
  replace hw := hw.trans hw6
  replace hb2 := hb2.wrs hw6 (by simp; omega)
  replace hb3' := hb3'.wrs hw6 (by simp; omega)
  replace ho := ho.wrs hw6 (by omega)
  clear hc3
  have hc3 := hc6
  clear hc6
  repeat refine zz ?_
  refine W_cond rfl (fun h0 => ?_) (fun h0 => ?_)
  · repeat refine zz ?_
    refine o_buildSlice rfl rfl rfl rfl rfl (by simp [Value.cells]) (by omega) ?_
    intro b7 w7 hal7
    have he7 := hal7.b_eq
    have hz7 := hal7.size
    have hs7 : Sl intR w7 (.slice (some ⟨b7, 0, none⟩) 3 3) [-1, 99, 100] [b7] := Sl.ofInts (xs := [-1, 99, 100]) hal7.blk (fun i hi => by
      rcases (show i = 0 ∨ i = 1 ∨ i = 2 by simp at hi; omega) with rfl | rfl | rfl <;> rfl) rfl (Nat.le_refl _)
    replace hw := hw.keepR hal7.kp
    replace hc3 := hc3.keep hal7.kp
    replace hb2 := hb2.keep hal7.kp
    replace hb3' := hb3'.keep hal7.kp
    replace ho := ho.keep hal7.kp
    repeat refine zz ?_
    refine o_call rfl rfl rfl (l1PickInt_ok hc3 hs7 (by simp; omega) (by simp) (by simp)) ?_
    rintro _ w8 ⟨i8, hi8, rfl, hc8, hw8⟩
    have hz8 := hw8.size
    replace hw := hw.trans hw8
    replace hb2 := hb2.wrs hw8 (by simp; omega)
    replace hb3' := hb3'.wrs hw8 (by simp; omega)
    replace ho := ho.wrs hw8 (by omega)
    generalize gi ([-1, 99, 100] : List Int) (i8 : Int) = id8 at *
    repeat refine zz ?_
    refine o_store1 (b := b3) (off := 0) rfl rfl rfl rfl rfl hb3' (by simp) ?_
    intro w9 hu9
    have hb9 : Blk w9 b3 45 [.int .i64 id8, .slice Au nu cu] := hu9.blk
    have hz9 := hu9.size
    replace hw := hw.updN hu9 (by omega)
    have hc3 := hc8.upd hu9 (by omega)
    replace hb2 := hb2.upd hu9 (by omega)
    replace ho := ho.upd hu9 (fun e => by have := hown _ e; omega) (by simp)
    clear hu9 hb3'
    repeat refine zz ?_
    refine o_storeS (b := b2) (off := 0) rfl rfl rfl rfl (by repeat (first | exact ones_nil | refine ones_cons (by first | rfl | assumption) ?_)) rfl hb2 (by simp) ?_
    intro wZ huZ
    have hbZ : Blk wZ b2 45 [.int .i64 id8, .slice Au nu cu] := huZ.blk
    repeat refine zz ?_
    exact retc rfl rfl hbZ.cells rfl ⟨id8, .slice Au nu cu, _, rfl, (ho.upd huZ (fun e => by have := (ho.lt e).1; omega) (by simp)).below (by omega), by omega, hc3.upd huZ (by omega), hw.updN huZ (by omega)⟩
  repeat refine zz ?_
  refine W_cond rfl (fun h1 => ?_) (fun h1 => ?_)
  · obtain ⟨bo, cap, cl, hve, hbo, hbl, hcl, hcap, hcg, hst⟩ := ho.stI (by intro e; rw [e] at hl; cases hl)
    simp only [Value.slice.injEq] at hve
    obtain ⟨rfl, rfl, rfl⟩ := hve
    have hbo3 := hown bo rfl
    repeat refine zz ?_
    refine W_draw (fun w' => Blk w' b3 45 [.int .i64 id, .slice (some ⟨bo, 0, none⟩) xs.length cu]) (by kernel_rfl) ?_
    have kd := Keep.drew w6
    have hzd := kd.size_le
    replace hw := hw.keepR kd
    replace hc3 := hc3.keep kd
    replace hb2 := hb2.keep kd
    replace hb3' := hb3'.keep kd
    replace ho := ho.keep kd
    replace hbl := hbl.keep kd
    refine WD_take 0 rfl (by kernel_rfl) (by kernel_rfl) (by kernel_rfl) (by repeat (first | exact np_ret | refine np_then ?_ | refine np_in ?_)) rfl rfl (fun w' _ => o_fieldAddr rfl rfl) hb3' ?_
    refine WD_take 1 rfl (by kernel_rfl) (by kernel_rfl) (by kernel_rfl) (by repeat (first | exact np_ret | refine np_then ?_ | refine np_in ?_)) rfl rfl (fun w' hw' => o_load rfl (Blk.fcell hw' rfl)) hb3' ?_
    refine WD_take 2 rfl (by kernel_rfl) (by kernel_rfl) (by kernel_rfl) (by repeat (first | exact np_ret | refine np_then ?_ | refine np_in ?_)) rfl rfl (fun w' hw' => o_move rfl) hb3' ?_
    refine WD_one 3 (by kernel_rfl) rfl ?_
    refine o_buildSlice rfl rfl rfl rfl rfl (by simp [Value.cells]) (by omega) ?_
    intro b7 w7 hal7
    have he7 := hal7.b_eq
    have hz7 := hal7.size
    have hs7 : Sl intR w7 (.slice (some ⟨b7, 0, none⟩) 3 3) [-1, 9, 10] [b7] := Sl.ofInts (xs := [-1, 9, 10]) hal7.blk (fun i hi => by
      rcases (show i = 0 ∨ i = 1 ∨ i = 2 by simp at hi; omega) with rfl | rfl | rfl <;> rfl) rfl (Nat.le_refl _)
    replace hw := hw.keepR hal7.kp
    replace hc3 := hc3.keep hal7.kp
    replace hb2 := hb2.keep hal7.kp
    replace hb3' := hb3'.keep hal7.kp
    replace ho := ho.keep hal7.kp
    replace hbl := hbl.keep hal7.kp
    refine WL_end ⟨hb3', ?_⟩
    refine WD_one 4 (by kernel_rfl) rfl ?_
    refine o_call rfl rfl rfl (l1PickInt_ok hc3 hs7 (by simp; omega) (by simp) (by simp)) ?_
    rintro _ w8 ⟨i8, hi8, rfl, hc8, hw8⟩
    have hz8 := hw8.size
    replace hw := hw.trans hw8
    replace hb2 := hb2.wrs hw8 (by simp; omega)
    replace hb3' := hb3'.wrs hw8 (by simp; omega)
    replace hbl := hbl.wrs hw8 (by simp; omega)
    replace ho := ho.wrs hw8 (by omega)
    refine WL_end ⟨hb3', ?_⟩
    obtain ⟨bo', cap', cl', hve', hbo', hbl', hcl', hcap', hcg', hst'⟩ := ho.stI (by intro e; rw [e] at hl; cases hl)
    simp only [Value.slice.injEq, Option.some.injEq, Addr.mk.injEq, and_true] at hve'
    obtain ⟨rfl, _, rfl⟩ := hve'
    generalize gi ([-1, 9, 10] : List Int) (i8 : Int) = v8 at *
    refine WD_take 5 rfl (by kernel_rfl) (by kernel_rfl) (by kernel_rfl) (by repeat (first | exact np_ret | refine np_then ?_ | refine np_in ?_)) rfl rfl (fun w' hw' => o_indexAddr rfl rfl rfl (by omega) (by omega)) hb3' ?_
    refine WD_one 6 (by kernel_rfl) rfl ?_
    refine o_store1 (b := bo) (off := 0) rfl rfl rfl rfl rfl hbl' (by omega) ?_
    intro w9 hu9
    have ho9 := hst' w9 0 v8 (by omega) hu9
    have hz9 := hu9.size
    replace hw := hw.updN hu9 (by omega)
    replace hc3 := hc8.upd hu9 (by omega)
    replace hb2 := hb2.upd hu9 (by omega)
    have hb9 := hb3'.upd hu9 (by omega)
    clear hb3' ho
    have ho := ho9
    refine WL_end ⟨hb9, ?_⟩
    refine WD_done (by kernel_rfl) ?_
    repeat refine zz ?_
    refine o_storeS (b := b2) (off := 0) rfl rfl rfl rfl (by repeat (first | exact ones_nil | refine ones_cons (by first | rfl | assumption) ?_)) rfl hb2 (by simp) ?_
    intro wZ huZ
    have hbZ : Blk wZ b2 45 [.int .i64 id, .slice (some ⟨bo, 0, none⟩) xs.length cu] := huZ.blk
    repeat refine zz ?_
    exact retc rfl rfl hbZ.cells rfl ⟨id, _, _, rfl, (ho.upd huZ (fun e => by have := (ho.lt e).1; omega) (by simp)).below (by omega), by simp; omega, hc3.upd huZ (by omega), hw.updN huZ (by omega)⟩
  repeat refine zz ?_
  refine W_cond rfl (fun h2 => ?_) (fun h2 => ?_)
  · repeat refine zz ?_
    refine o_buildSlice rfl rfl rfl rfl rfl (by simp [Value.cells]) (by omega) ?_
    intro b7 w7 hal7
    have hz7 := hal7.size
    replace hw := hw.keepR hal7.kp
    replace hc3 := hc3.keep hal7.kp
    replace hb2 := hb2.keep hal7.kp
    replace hb3' := hb3'.keep hal7.kp
    replace ho := ho.keep hal7.kp
    repeat refine zz ?_
    refine o_appendG (R := intR) (M := _) (gi := []) rfl rfl rfl rfl rfl (by decide) ho (Blk.src (xs := [1]) hal7.blk (Rows.ints _ _)) rfl (Fresh.nil _ _) (fun b hb => by simp at hb) (fun b hb => (ho.lt hb).2) (fun b hb => by simp at hb) (by simp only [List.length_cons, List.length_nil]; omega) (by simp only [List.length_cons, List.length_nil]; omega) (by omega) ?_
    intro vN wN hoN hbN hgN hvN
    have hne : vN.ownBlock ≠ some b3 := fun e => by
      rcases hvN with h | h
      · rw [h] at e; have := hown _ e; omega
      · rw [h] at e; simp only [Option.some.injEq] at e; omega
    have hrow : ∀ c, (Value.slice Au nu cu).ownBlock = some c → w2.heap.size ≤ c := fun c hc => (ho.lt hc).1
    replace hw := hw.grown hgN (fun c hc => by have := hrow c hc; omega)
    replace hc3 := hc3.grown hgN (fun c hc => by have := hrow c hc; omega)
    replace hb2 := hb2.grown hgN (fun e => by have := hrow _ e.symm; omega)
    replace hb3' := hb3'.grown hgN (fun e => by have := hown _ e.symm; omega)
    obtain ⟨A', n', c', rfl, _⟩ := hoN.split
    have hgz := hgN.size
    repeat refine zz ?_
    refine o_store1 (b := b3) (off := 1) rfl rfl rfl rfl rfl hb3' (by simp) ?_
    intro w9 hu9
    have hb9 : Blk w9 b3 45 [.int .i64 id, .slice A' n' c'] := hu9.blk
    have hz9 := hu9.size
    replace hw := hw.updN hu9 (by omega)
    replace hc3 := hc3.upd hu9 (by omega)
    replace hb2 := hb2.upd hu9 (by omega)
    replace ho := hoN.upd hu9 hne (by simp)
    clear hu9 hb3'
    repeat refine zz ?_
    refine o_storeS (b := b2) (off := 0) rfl rfl rfl rfl (by repeat (first | exact ones_nil | refine ones_cons (by first | rfl | assumption) ?_)) rfl hb2 (by simp) ?_
    intro wZ huZ
    have hbZ : Blk wZ b2 45 [.int .i64 id, .slice A' n' c'] := huZ.blk
    repeat refine zz ?_
    exact retc rfl rfl hbZ.cells rfl ⟨id, .slice A' n' c', _, rfl, (ho.upd huZ (fun e => by have := (ho.lt e).1; omega) (by simp)).below (by omega), by simp; omega, hc3.upd huZ (by omega), hw.updN huZ (by omega)⟩
  repeat refine zz ?_
  repeat refine zz ?_
  refine o_storeS (b := b2) (off := 0) rfl rfl rfl rfl (by repeat (first | exact ones_nil | refine ones_cons (by first | rfl | assumption) ?_)) rfl hb2 (by simp) ?_
  intro wZ huZ
  have hbZ : Blk wZ b2 45 [.int .i64 id, .slice Au nu cu] := huZ.blk
  repeat refine zz ?_
  exact retc rfl rfl hbZ.cells rfl ⟨id, .slice Au nu cu, _, rfl, (ho.upd huZ (fun e => by have := (ho.lt e).1; omega) (by simp)).below (by omega), by omega, hc3.upd huZ (by omega), hw.updN huZ (by omega)⟩

set_option maxHeartbeats 1000000 in
theorem l2Any_ok {w : World} {b : Nat} (hc : Cur w b) :
    Run Tryz.prog 48 [.pointer (some ⟨b, 0, none⟩)] w (fun r w' => ∃ (L : List Itm) (fi : List Nat), OwnF itemR w' w.heap.size 45 r L fi ∧ L.length ≤ 101 ∧ small L ∧ Cur w' b ∧ Wrs w w' [b]) := by
  have hbl := hc.lt
  refine Run_intro Tryz.func48 (by unfold CallOk; kernel_rfl) rfl Tryz.ntmps48 (Nat.le_of_ble_eq_true rfl) ?_
  simp only [penv, Nat.reduceAdd, Nat.zero_add]
  repeat refine zz ?_
  refine o_call rfl rfl rfl (l2Items_ok hc (by omega) (by omega)) ?_
  rintro va w1 ⟨L, fi, hoa, hl, hsm, hc1, hw⟩
  have hz1 := hw.size
  repeat refine zz ?_
  refine o_call rfl rfl rfl (l1Once_ok hc1 (by omega)) ?_
  rintro _ w2 ⟨q, rfl, hc2, hw2⟩
  have hz2 := hw2.size
  replace hw := hw.trans hw2
  replace hoa := hoa.wrs hw2 (by omega)
  repeat refine zz ?_
  refine W_cond rfl (fun h => ?_) (fun h => ?_)
  · repeat refine zz ?_
    refine o_call rfl rfl rfl (l2AnyItem_ok hc2) ?_
    rintro _ w3 ⟨id, u, xs, rfl, ho3, hl3, hc3, hw3⟩
    have hdm := hoa.fresh.dom
    have hdo := fun b hb => (hoa.lt (b := b) hb).2
    have hz3 := hw3.size
    replace hw := hw.trans hw3
    replace hoa := hoa.wrs hw3 (by omega)
    obtain ⟨f6, hs6, hf6⟩ := ho3.sl (by decide)
    have o6 := hs6.oneCell
    repeat refine zz ?_
    refine o_buildSlice rfl rfl rfl rfl rfl (by simp [Value.cells]) (by omega) ?_
    intro b7 w7 hal7
    have hb7 : Blk w7 b7 45 [.int .i64 id, u] := by simpa [Value.cells] using hal7.blk
    have hz7 := hal7.size
    replace hw := hw.keepR hal7.kp
    replace hoa := hoa.keep hal7.kp
    replace hs6 := hs6.keep hal7.kp
    replace hf6 := hf6.keep hal7.kp
    replace hc3 := hc3.keep hal7.kp
    repeat refine zz ?_
    refine o_appendF (R := itemR) (M := w2.heap.size) (gi := f6) rfl rfl rfl rfl rfl (by decide) hoa (Blk.src (xs := [(⟨id, xs⟩ : Itm)]) hb7 (Rows.single (R := itemR) ⟨u, rfl, hs6⟩)) rfl (hf6.mono (by omega)) hdm hdo (fun b hb => hf6.ge hb) (by simp only [List.length_cons, List.length_nil]; omega) (by simp only [List.length_cons, List.length_nil]; omega) (by omega) ?_
    intro v8 w8 ho8 hb8 hg8
    have hrow : ∀ c, va.ownBlock = some c → w.heap.size ≤ c := fun c hc => (hoa.lt hc).1
    repeat refine zz ?_
    exact ret1 rfl rfl ⟨L ++ [⟨id, xs⟩], _, ho8, by simp; omega, small_snoc hsm (by show xs.length ≤ 4; omega), hc3.grown hg8 (fun c hc => by have := hrow c hc; omega), hw.grown hg8 hrow⟩
  · repeat refine zz ?_
    exact ret1 rfl rfl ⟨L, fi, hoa, by omega, hsm, hc2, hw⟩
end Go.E
set_option linter.unusedVariables false
set_option linter.unusedSimpArgs false
namespace Go.E
open Go Go.RowKit Go.Proofs
attribute [local irreducible] W WL WD WE thenE inE retQ PureOp Keep Cell Cells Blk Sl Rows Own Src Fresh
attribute [local irreducible] Cur

end Go.E
set_option linter.unusedVariables false
set_option linter.unusedSimpArgs false
namespace Go.E
open Go Go.RowKit Go.Proofs
attribute [local irreducible] W WL WD WE thenE inE retQ PureOp Keep Cell Cells Blk Sl Rows Own Src Fresh
attribute [local irreducible] Cur

end Go.E
set_option linter.unusedVariables false
set_option linter.unusedSimpArgs false
namespace Go.E
open Go Go.RowKit Go.Proofs
attribute [local irreducible] W WL WD WE thenE inE retQ PureOp Keep Cell Cells Blk Sl Rows Own Src Fresh
attribute [local irreducible] Cur

end Go.E
set_option linter.unusedVariables false
set_option linter.unusedSimpArgs false
namespace Go.E
open Go Go.RowKit Go.Proofs
/-- nodes that are drawn: short lists -/
def smallE (E : List Nod) : Prop := ∀ x, x ∈ E → totW x.wish ≤ 1001
theorem smallE_tot {E : List Nod} (h : smallE E) : totN E ≤ 1001 * E.length := by
  induction E with
  | nil => simp [totN]
  | cons x r ih =>
    have h1 := h x (by simp)
    have h2 := ih fun y hy => h y (List.mem_cons_of_mem _ hy)
    simp only [totN, List.length_cons]; omega
theorem smallE_app {E F : List Nod} (h : smallE E) (k : smallE F) : smallE (E ++ F) := fun y hy => (List.mem_append.1 hy).elim (h y) (k y)
theorem smallE_one {x : Nod} (h : totW x.wish ≤ 1001) : smallE [x] := fun y hy => by rw [List.mem_singleton] at hy; rw [hy]; exact h
theorem Keep.old {w w' : World} (h : Keep w w') {b : Nat} (hb : b < w.heap.size) : w'.heap[b]? = w.heap[b]? := h.block b hb
def opNode (k : Int) : Nod := ⟨k, ⟨0, 0, 0, [], []⟩⟩
theorem op_rows (w : World) (k : Int) : Rows nodeR w [opNode k] [.int .i64 k, .int .i64 0, .int .i64 0, .int .i64 0, .slice none 0 0, .slice none 0 0] [] :=
  Rows.single ⟨_, rfl, _, _, [], [], rfl, rfl, Sl.nil (by omega) _, Sl.nil (by omega) _⟩
theorem smallE_op (k : Int) : smallE [opNode k] := smallE_one (by simp [opNode, totW])
attribute [local irreducible] W WL WD WE thenE inE retQ PureOp Keep Cell Cells Blk Sl Rows Own Src Fresh
attribute [local irreducible] Cur
end Go.E
set_option linter.unusedVariables false
set_option linter.unusedSimpArgs false
namespace Go.E
open Go Go.RowKit Go.Proofs
attribute [local irreducible] W WL WD WE thenE inE retQ PureOp Keep Cell Cells Blk Sl Rows Own Src Fresh
attribute [local irreducible] Cur

end Go.E

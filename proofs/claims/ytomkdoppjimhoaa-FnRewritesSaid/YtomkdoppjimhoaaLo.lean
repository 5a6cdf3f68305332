/-
  Append to a slice of one's own without its first element. Conditions: as stated; over any program.
-/
import Derived.Test.YtomkdoppjimhoaaRs
import Derived.Test.YtomkdoppjimhoaaWo
import Derived.ArgAppend
set_option linter.unusedVariables false
set_option linter.unusedSimpArgs false
namespace Go.E
open Go Go.RowKit Go.Proofs
section
variable {P : Program} {N : Nat} {ops : Array Oper} {Q : Post} {rest : List Oper} {e : Env} {w : World}
  {ty : TypeId} {pos : String} {af : Array Edge} {g : Option (Nat × Bool)} {x y : Operand} {t el : TypeId} {sz bytes : Nat} {zc : List Value} {d : Tmp}
theorem o_appendLo {α : Type} {R : Rp α} [ht : SliceT P t el] [he : ElemT P el sz bytes zc] {base : Nat} {xs ys : List α} {fi : List Nat} {A B : Option Addr} {n c m c' : Nat}
    (hg : gd ops e g = some true) (hd : Nat.blt d N = true) (hx : ev e x = some (.slice (if c = 1 then A else A.map (·.add (1 * R.sz))) (n - 1) (c - 1))) (hy : ev e y = some (.slice B m c')) (hsz : R.sz = sz) (hsz0 : 0 < sz)
    (ho : OwnF R w base el (.slice A n c) xs fi) (h1n : 1 ≤ n) (hs : Src R w B ys []) (hm : m = ys.length) (hm0 : 0 < m)
    (h63 : xs.length + ys.length ≤ 4611686018427387904) (hbytes : (xs.length + ys.length) * bytes ≤ 140737488355328) (hbase : base ≤ w.heap.size)
    (kk : ∀ v' w' f row, Sl R w' v' (xs.drop 1 ++ ys) f → (∀ b, b ∈ f → base ≤ b) → w.grownBy w' row → (∀ b, row = some b → base ≤ b) → WL P N ops Q rest ((d, v') :: e) w') :
    WL P N ops Q (⟨some d, .call ⟨.builtin .append, #[x, y], #[t, t]⟩, ty, pos, af, g⟩ :: rest) e w := by
  have hzl : zc.length = sz := he.l
  subst hsz
  obtain ⟨i, zv, hi, h1, h2, h3, h4⟩ := he.get
  obtain ⟨cells, hown, hrows⟩ := ho.own
  obtain ⟨news, hrn, hsrc⟩ := hs
  have hnl : news.length = m * R.sz := by rw [hm]; exact hrn.len
  obtain ⟨_, _, _, hsp, hn, _⟩ := ho.split
  simp only [Value.slice.injEq] at hsp
  obtain ⟨rfl, rfl, rfl⟩ := hsp
  subst hn
  have hdrop : (xs ++ ys).drop 1 = xs.drop 1 ++ ys := by rw [List.drop_append]; rw [show 1 - xs.length = 0 by omega]; rfl
  rcases hsrc with ⟨_, hy0⟩ | ⟨ad, rfl, hcs⟩
  · rw [hy0] at hm; simp at hm; omega
  rcases hown.2 with ⟨_, h0⟩ | ⟨b, cap, cur, heq, hbb, hgb, hnc, hcm, hcsz, htk⟩
  · omega
  simp only [Value.slice.injEq] at heq
  obtain ⟨rfl, _, rfl⟩ := heq
  have hblk : Blk w b el cur.toList := by simpa [Blk] using hgb
  obtain ⟨v1, w1, hr1, ho1, hg1, _, _⟩ := run_append_own_at (P := P) w base t ty el i zv R.sz bytes ht.u hi h3 h1 h2 (by rw [h4]; simpa using hzl) hsz0 _ xs.length cells hown ad m c' news hnl hcs hrn.one (by rw [hm]; simp only [maxLen]; omega) (by rw [hm]; exact hbytes) hbase
  by_cases hroom : xs.length + m ≤ c
  · have hc1 : c ≠ 1 := by omega
    rw [if_neg hc1] at hx
    have eb : (some (⟨b, 0, none⟩ : Addr)).map (·.add (1 * R.sz)) = some ⟨b, R.sz, none⟩ := by simp [add_mk]
    rw [eb] at hx
    have hsum : (xs.length + m) * R.sz ≤ c * R.sz := Nat.mul_le_mul_right _ hroom
    rw [Nat.add_mul] at hsum
    have hsome : ∀ k, k < c * R.sz → (w.cell? ⟨b, k, none⟩).isSome = true := fun k hk => by
      rw [hblk.cell?, List.getElem?_eq_getElem (by simp; omega)]; rfl
    have e1 : R.sz + (xs.length - 1) * R.sz = xs.length * R.sz := by
      obtain ⟨k, hk⟩ : ∃ k, xs.length = k + 1 := ⟨xs.length - 1, by omega⟩
      rw [hk, Nat.add_sub_cancel, Nat.succ_mul]; omega
    have hn1 : news.length = m * i.size := by rw [h1]; exact hnl
    have r1 := run_append_room_cells (P := P) w t ty el i ht.u hi b 0 xs.length c ad m c' news hn1 hcs hrn.one hroom (fun j hj => hsome _ (by rw [h1]; omega)) (fun j hj => hblk.frozen _)
    have r2 := run_append_room_cells (P := P) w t ty el i ht.u hi b R.sz (xs.length - 1) (c - 1) ad m c' news hn1 hcs hrn.one (by omega) (fun j hj => hsome _ (by rw [h1]; omega)) (fun j hj => hblk.frozen _)
    rw [r1] at hr1
    simp only [Result.ok.injEq] at hr1
    obtain ⟨rfl, rfl⟩ := hr1
    rw [h1, Nat.zero_add] at ho1 hg1
    rw [h1, e1] at r2
    refine WL_val (o := ⟨some d, .call ⟨.builtin .append, #[x, y], #[t, t]⟩, ty, pos, af, g⟩) (w' := w.setCells b (xs.length * R.sz) news) (v := .slice (some ⟨b, R.sz, none⟩) (xs.length - 1 + m) (c - 1)) hg hd (fun a ha => ?_) ?_
    · simp [execOp, resolve, invoke, builtin, ha.ev hx, ha.ev hy, r2]
    have hOwn : Own R (w.setCells b (xs.length * R.sz) news) base el (.slice (some ⟨b, 0, none⟩) (xs.length + m) c) (xs ++ ys) fi := by
      refine ⟨cells ++ news, by rw [List.length_append, ← hm]; exact ho1, ?_⟩
      have := (hrows.same (w' := w.setCells b (xs.length * R.sz) news) fun k hk => hg1.block k (hrows.dom k hk) fun e => ho.out k e.symm hk).append (hrn.same (w' := w.setCells b (xs.length * R.sz) news) fun k hk => by cases hk)
      rwa [List.append_nil] at this
    obtain ⟨f, hsl, hfm, _⟩ := hOwn.sl hsz0
    obtain ⟨f2, hsl2, hf2⟩ := hsl.lo (k := 1) (by omega)
    rw [if_neg hc1, eb, hdrop, show xs.length + m - 1 = xs.length - 1 + m by omega] at hsl2
    refine kk _ _ f2 _ hsl2 (fun k hk => ?_) hg1 (fun k hk => by simp [Value.ownBlock] at hk; omega)
    rcases hfm k (hf2 k hk) with h | h
    · simp [Value.ownBlock] at h; omega
    · exact ho.fresh.ge h
  · have hol : (cells.drop R.sz).length = (xs.length - 1) * R.sz := by
      rw [List.length_drop, hown.1]
      obtain ⟨k, hk⟩ : ∃ k, xs.length = k + 1 := ⟨xs.length - 1, by omega⟩
      rw [hk, Nat.add_sub_cancel, Nat.succ_mul]; omega
    have hcell : ∀ j u, cells[j]? = some u → w.cell? ⟨b, j, none⟩ = some u := fun j u hu => by
      rw [hblk.cell?]
      rw [← htk, List.getElem?_take] at hu
      split at hu
      · exact hu
      · cases hu
    obtain ⟨ab, hab, hold⟩ : ∃ ab : Addr, (if c = 1 then some (⟨b, 0, none⟩ : Addr) else (some (⟨b, 0, none⟩ : Addr)).map (·.add (1 * R.sz))) = some ab ∧ ∀ j u, (cells.drop R.sz)[j]? = some u → w.cell? (ab.add j) = some u := by
      by_cases hc1 : c = 1
      · refine ⟨_, if_pos hc1, fun j u hu => ?_⟩
        have hnil : (cells.drop R.sz) = [] := List.eq_nil_of_length_eq_zero (by rw [hol, show xs.length - 1 = 0 by omega, Nat.zero_mul])
        rw [hnil] at hu; simp at hu
      · refine ⟨⟨b, R.sz, none⟩, by rw [if_neg hc1]; simp [add_mk], fun j u hu => ?_⟩
        rw [add_mk]
        exact hcell _ u (by rw [List.getElem?_drop] at hu; exact hu)
    rw [hab] at hx
    obtain ⟨v', w', hr, hown', hgr⟩ := run_append_arg_grows (P := P) w t ty el i zv R.sz bytes ht.u hi h3 h1 h2 (by rw [h4]; simpa using hzl) hsz0 ab (xs.length - 1) (c - 1) (cells.drop R.sz) hol hold ad m c' news hnl hcs (by omega) (by rw [hm]; simp only [maxLen]; omega) (Nat.le_trans (Nat.mul_le_mul_right _ (by omega)) hbytes)
    refine WL_val (o := ⟨some d, .call ⟨.builtin .append, #[x, y], #[t, t]⟩, ty, pos, af, g⟩) (w' := w') (v := v') hg hd (fun a ha => ?_) ?_
    · simp [execOp, resolve, invoke, builtin, ha.ev hx, ha.ev hy, hr]
    obtain ⟨f0, hrt, f2, hf02, hrd⟩ := hrows.take 1
    rw [Nat.one_mul] at hrd
    have hsub : ∀ k, k ∈ f2 → k ∈ fi := fun k hk => by rw [hf02]; exact List.mem_append.2 (.inr hk)
    have hOwn : Own R w' w.heap.size el v' (xs.drop 1 ++ ys) f2 := by
      refine ⟨cells.drop R.sz ++ news, by rw [List.length_append, List.length_drop, ← hm]; exact hown', ?_⟩
      have := (hrd.same (w' := w') fun k hk => hgr.block k (hrd.dom k hk) (fun e => by cases e)).append (hrn.same (w' := w') fun k hk => by cases hk)
      rwa [List.append_nil] at this
    obtain ⟨f, hsl, hfm, _⟩ := hOwn.sl hsz0
    refine kk _ _ f _ hsl (fun k hk => ?_) hgr (fun k hk => by cases hk)
    rcases hfm k hk with h | h
    · have := (hOwn.lt h).1; omega
    · exact ho.fresh.ge (hsub k h)
end
/-- nodes of one's own from block base on, perhaps without the first one -/
def LoN (w : World) (base : Nat) (v : Value) (E : List Nod) : Prop :=
  (∃ fi, OwnF nodeR w base 74 v E fi) ∨ ∃ A n c E0 fi, OwnF nodeR w base 74 (.slice A n c) E0 fi ∧ 1 ≤ n ∧ E = E0.drop 1 ∧ v = .slice (if c = 1 then A else A.map (·.add (1 * nodeR.sz))) (n - 1) (c - 1)
theorem LoN.sl {w : World} {base : Nat} {v : Value} {E : List Nod} (h : LoN w base v E) : ∃ f, Sl nodeR w v E f ∧ ∀ c, c ∈ f → base ≤ c := by
  rcases h with ⟨fi, h⟩ | ⟨A, n, c, E0, fi, h, hn, rfl, rfl⟩
  · obtain ⟨f, h1, h2⟩ := h.sl (by decide)
    exact ⟨f, h1, fun c hc => h2.ge hc⟩
  · obtain ⟨f, h1, h2⟩ := h.sl (by decide)
    obtain ⟨f2, h3, h4⟩ := h1.lo (k := 1) hn
    exact ⟨f2, h3, fun c hc => h2.ge (h4 c hc)⟩
end Go.E

/-
  Contracts: comparing whatever items by whatever expressions, agreement, votes. Conditions: as stated.
-/
import Derived.Test.YtomkdoppjimhoaaX2
set_option linter.unusedVariables false
set_option linter.unusedSimpArgs false
namespace Go.E
open Go Go.RowKit Go.Proofs
def cmpX (e : List Nod) (x y : Itm) : Int := if isExpr e && isItem x && isItem y then cmpE e x y else 2
def agreeAt (a b : List Nod) (L : List Itm) (i j : Nat) : Bool := decide (cmpX a (gi L (i : Int)) (gi L (j : Int)) = cmpX b (gi L (i : Int)) (gi L (j : Int)))
def agree (a b : List Nod) (L : List Itm) : Bool := allB L.length fun i => allB L.length fun j => agreeAt a b L i j
def votN (g : List (List Nod)) (x y : Itm) : Nat → Int
  | 0 => 0
  | n + 1 => if cmpE (gi g (n : Int)) x y = 1 then votN g x y n + 1 else votN g x y n
theorem votN_succ (g : List (List Nod)) (x y : Itm) (n : Nat) : votN g x y (n + 1) = if cmpE (gi g (n : Int)) x y = 1 then votN g x y n + 1 else votN g x y n := rfl
theorem votN_bd (g : List (List Nod)) (x y : Itm) (n : Nat) : 0 ≤ votN g x y n ∧ votN g x y n ≤ n := by
  induction n with
  | zero => simp [votN]
  | succ n ih => simp only [votN]; split <;> omega
def votesFor (L : List Itm) (g : List (List Nod)) (a b : Int) : Int := if poll L g && decide (0 ≤ findI L a) && decide (0 ≤ findI L b) then votN g (gi L (findI L a)) (gi L (findI L b)) g.length else 0
theorem poll_ok {L : List Itm} {g : List (List Nod)} (h : poll L g = true) : (∀ i : Nat, i < L.length → isItem (gi L (i : Int)) = true) ∧ L.length ≤ 16 ∧ (∀ i : Nat, i < g.length → isExpr (gi g (i : Int)) = true) ∧ 1 ≤ g.length ∧ g.length ≤ 5 := by
  simp only [poll, areVoters, Bool.and_eq_true] at h
  have h2 := h.2.2
  simp [inR] at h2
  exact ⟨(areItems_at h.1).1, (areItems_at h.1).2, fun i hi => List.all_eq_true.1 h.2.1 i (by simpa using hi), by omega, by omega⟩
theorem item_nn {L : List Itm} (hit : ∀ i : Nat, i < L.length → isItem (gi L (i : Int)) = true) {k : Int} (h0 : 0 ≤ k) (h1 : k < L.length) : isItem (gi L k) = true := by
  have := hit k.toNat (by omega)
  rwa [Int.toNat_of_nonneg h0] at this
attribute [local irreducible] W WL WD WE thenE inE retQ PureOp Keep Cell Cells Blk Sl Rows Own Src Fresh
attribute [local irreducible] cmpE isExpr areItems cmpX votN poll

set_option maxHeartbeats 1000000 in
theorem spec_CompareBy_ok {w : World} {v vx vy : Value} {e : List Nod} {x y : Itm} {fp fx fy : List Nat} (he : Sl nodeR w v e fp) (hx : Sl intR w vx x.vals fx) (hy : Sl intR w vy y.vals fy) (hn : e.length + totN e ≤ 1048576) :
    Run Try.prog 72 [v, .agg #[.int .i64 x.id, vx], .agg #[.int .i64 y.id, vy]] w (fun r w' => r = .int .i64 (cmpX e x y) ∧ Keep w w') := by
  have hcx : cmpX e x y = if isExpr e && isItem x && isItem y then cmpE e x y else 2 := by unfold cmpX; rfl
  refine Run_intro Try.func72 (by unfold CallOk; kernel_rfl) rfl Try.ntmps72 (Nat.le_of_ble_eq_true rfl) ?_
  simp only [penv, Nat.reduceAdd, Nat.zero_add]
  repeat refine zz ?_
  refine o_boxS rfl rfl rfl ?_
  intro b1 w1 hal1
  have hb1 := hal1.blk
  have hk := hal1.kp
  replace he := he.keep hal1.kp
  replace hx := hx.keep hal1.kp
  replace hy := hy.keep hal1.kp
  repeat refine zz ?_
  refine o_boxS rfl rfl rfl ?_
  intro b2 w2 hal2
  have hb2 := hal2.blk
  replace hk := hk.keep hal2.kp
  replace hb1 := hb1.keep hal2.kp
  replace he := he.keep hal2.kp
  replace hx := hx.keep hal2.kp
  replace hy := hy.keep hal2.kp
  repeat refine zz ?_
  refine o_call rfl rfl rfl (spec_IsExpression_ok he (by omega)) ?_
  rintro _ w3 ⟨rfl, hk3⟩
  replace hk := hk.keep hk3
  replace hb1 := hb1.keep hk3
  replace hb2 := hb2.keep hk3
  replace he := he.keep hk3
  replace hx := hx.keep hk3
  replace hy := hy.keep hk3
  repeat refine zz ?_
  refine WL_part rfl rfl (fun h1 => ?_) (fun h1 => ?_)
  · simp at h1
    repeat refine zz ?_
    exact ret1 rfl rfl ⟨by rw [hcx, h1]; rfl, hk⟩
  simp at h1
  repeat refine zz ?_
  refine o_call rfl rfl rfl (spec_IsItem_ok hx) ?_
  rintro _ w4 ⟨rfl, hk4⟩
  replace hk := hk.keep hk4
  replace hb1 := hb1.keep hk4
  replace hb2 := hb2.keep hk4
  replace he := he.keep hk4
  replace hx := hx.keep hk4
  replace hy := hy.keep hk4
  repeat refine zz ?_
  refine WL_part rfl rfl (fun h2 => ?_) (fun h2 => ?_)
  · simp at h2
    repeat refine zz ?_
    exact ret1 rfl rfl ⟨by rw [hcx, h1, h2]; rfl, hk⟩
  simp at h2
  repeat refine zz ?_
  refine o_call rfl rfl rfl (spec_IsItem_ok hy) ?_
  rintro _ w5 ⟨rfl, hk5⟩
  replace hk := hk.keep hk5
  replace hb1 := hb1.keep hk5
  replace hb2 := hb2.keep hk5
  replace he := he.keep hk5
  replace hx := hx.keep hk5
  replace hy := hy.keep hk5
  repeat refine zz ?_
  refine W_cond rfl (fun h3 => ?_) (fun h3 => ?_)
  · simp at h3
    repeat refine zz ?_
    exact ret1 rfl rfl ⟨by rw [hcx, h1, h2, h3]; rfl, hk⟩
  simp at h3
  repeat refine zz ?_
  refine o_call rfl rfl rfl (l5Compare_ok he hx hy h1 h2 h3) ?_
  rintro _ w6 ⟨rfl, hk6⟩
  repeat refine zz ?_
  exact ret1 rfl rfl ⟨by rw [hcx, h1, h2, h3]; rfl, hk.keep hk6⟩

set_option maxHeartbeats 1000000 in
theorem impl_CompareBy_ok {w : World} {v vx vy : Value} {e : List Nod} {x y : Itm} {fp fx fy : List Nat} (he : Sl nodeR w v e fp) (hx : Sl intR w vx x.vals fx) (hy : Sl intR w vy y.vals fy) (hn : e.length + totN e ≤ 1048576) :
    Run Try.prog 69 [v, .agg #[.int .i64 x.id, vx], .agg #[.int .i64 y.id, vy]] w (fun r w' => r = .int .i64 (cmpX e x y) ∧ Keep w w') := by
  have hcx : cmpX e x y = if isExpr e && isItem x && isItem y then cmpE e x y else 2 := by unfold cmpX; rfl
  refine Run_intro Try.func69 (by unfold CallOk; kernel_rfl) rfl Try.ntmps69 (Nat.le_of_ble_eq_true rfl) ?_
  simp only [penv, Nat.reduceAdd, Nat.zero_add]
  repeat refine zz ?_
  refine o_boxS rfl rfl rfl ?_
  intro b1 w1 hal1
  have hb1 := hal1.blk
  have hk := hal1.kp
  replace he := he.keep hal1.kp
  replace hx := hx.keep hal1.kp
  replace hy := hy.keep hal1.kp
  repeat refine zz ?_
  refine o_boxS rfl rfl rfl ?_
  intro b2 w2 hal2
  have hb2 := hal2.blk
  replace hk := hk.keep hal2.kp
  replace hb1 := hb1.keep hal2.kp
  replace he := he.keep hal2.kp
  replace hx := hx.keep hal2.kp
  replace hy := hy.keep hal2.kp
  repeat refine zz ?_
  refine o_call rfl rfl rfl (impl_IsExpression_ok he (by omega)) ?_
  rintro _ w3 ⟨rfl, hk3⟩
  replace hk := hk.keep hk3
  replace hb1 := hb1.keep hk3
  replace hb2 := hb2.keep hk3
  replace he := he.keep hk3
  replace hx := hx.keep hk3
  replace hy := hy.keep hk3
  repeat refine zz ?_
  refine WL_part rfl rfl (fun h1 => ?_) (fun h1 => ?_)
  · simp at h1
    repeat refine zz ?_
    exact ret1 rfl rfl ⟨by rw [hcx, h1]; rfl, hk⟩
  simp at h1
  repeat refine zz ?_
  refine o_call rfl rfl rfl (impl_IsItem_ok hx) ?_
  rintro _ w4 ⟨rfl, hk4⟩
  replace hk := hk.keep hk4
  replace hb1 := hb1.keep hk4
  replace hb2 := hb2.keep hk4
  replace he := he.keep hk4
  replace hx := hx.keep hk4
  replace hy := hy.keep hk4
  repeat refine zz ?_
  refine WL_part rfl rfl (fun h2 => ?_) (fun h2 => ?_)
  · simp at h2
    repeat refine zz ?_
    exact ret1 rfl rfl ⟨by rw [hcx, h1, h2]; rfl, hk⟩
  simp at h2
  repeat refine zz ?_
  refine o_call rfl rfl rfl (impl_IsItem_ok hy) ?_
  rintro _ w5 ⟨rfl, hk5⟩
  replace hk := hk.keep hk5
  replace hb1 := hb1.keep hk5
  replace hb2 := hb2.keep hk5
  replace he := he.keep hk5
  replace hx := hx.keep hk5
  replace hy := hy.keep hk5
  repeat refine zz ?_
  refine W_cond rfl (fun h3 => ?_) (fun h3 => ?_)
  · simp at h3
    repeat refine zz ?_
    exact ret1 rfl rfl ⟨by rw [hcx, h1, h2, h3]; rfl, hk⟩
  simp at h3
  repeat refine zz ?_
  refine o_call rfl rfl rfl (compareBy_ok he hx hy h1 h2 h3) ?_
  rintro _ w6 ⟨rfl, hk6⟩
  repeat refine zz ?_
  exact ret1 rfl rfl ⟨by rw [hcx, h1, h2, h3]; rfl, hk.keep hk6⟩

set_option maxHeartbeats 1000000 in
theorem spec_AgreeOn_ok {w : World} {va vb vl : Value} {a b : List Nod} {L : List Itm} {fa fb fl : List Nat} (ha : Sl nodeR w va a fa) (hb : Sl nodeR w vb b fb) (hL : Sl itemR w vl L fl) (hna : a.length + totN a ≤ 1048576) (hnb : b.length + totN b ≤ 1048576) :
    Run Try.prog 30 [va, vb, vl] w (fun r w' => r = .bool (agree a b L) ∧ Keep w w') := by
  have hn := hL.le
  obtain ⟨A, n, c, rfl, hnx⟩ := hL.split
  refine Run_intro Try.func30 (by unfold CallOk; kernel_rfl) rfl Try.ntmps30 (Nat.le_of_ble_eq_true rfl) ?_
  simp only [penv, Nat.reduceAdd, Nat.zero_add]
  repeat refine zz ?_
  refine W_loop (S := Nat) (fun k => [(0, va), (1, vb), (2, .slice A n c), (7, .int .i64 (k : Int))]) (fun k w' => Keep w w' ∧ k ≤ n ∧ ∀ i, i < k → (fun i => allB L.length fun j => agreeAt a b L i j) i = true) (fun k => n - k) 0 ⟨rfl, rfl, rfl, rfl, trivial⟩ ⟨Keep.refl _, Nat.zero_le _, fun i hi => absurd hi (by omega)⟩ ?_
  rintro k w1 ⟨hk1, hk, hall⟩
  repeat refine zz ?_
  refine W_cond rfl (fun hc => ?_) (fun hc => ?_)
  · have hkn : k < n := by simp at hc; omega
    repeat refine zz ?_
    refine W_loop (S := Nat) (fun j => [(0, va), (1, vb), (2, .slice A n c), (7, .int .i64 (k : Int)), (8, .int .i64 (j : Int))]) (fun j w' => Keep w w' ∧ j ≤ n ∧ ∀ i, i < j → (fun j => agreeAt a b L k j) i = true) (fun j => n - j) 0 ⟨rfl, rfl, rfl, rfl, rfl, trivial⟩ ⟨hk1, Nat.zero_le _, fun i hi => absurd hi (by omega)⟩ ?_
    rintro j w2 ⟨hk2, hj, hall2⟩
    have hL2 := hL.keep hk2
    have ha2 := ha.keep hk2
    have hb2 := hb.keep hk2
    repeat refine zz ?_
    refine W_cond rfl (fun hcj => ?_) (fun hcj => ?_)
    · have hjn : j < n := by simp at hcj; omega
      obtain ⟨hA, u1, f1, hcell1, hu1, _⟩ := item_get hL2 (i := (k : Int)) (by omega) (by omega)
      obtain ⟨_, u2, f2, hcell2, hu2, _⟩ := item_get hL2 (i := (j : Int)) (by omega) (by omega)
      repeat refine zz ?_
      refine W_quiet (Keep w2) (by kernel_rfl) (by kernel_rfl) (Keep.drew _) ?_
      repeat refine qq ?_
      refine WQ_call rfl rfl rfl (fun w' hw' => (spec_CompareBy_ok (ha2.keep hw') (hu1.keep hw') (hu2.keep hw') hna).kk hw') ?_
      repeat refine qq ?_
      refine WQ_call rfl rfl rfl (fun w' hw' => (spec_CompareBy_ok (hb2.keep hw') (hu1.keep hw') (hu2.keep hw') hnb).kk hw') ?_
      repeat refine qq ?_
      intro w3 hk3 
      repeat refine zz ?_
      refine W_cond rfl (fun hd => ?_) (fun hd => ?_)
      · simp only [decide_eq_true_eq] at hd
        repeat refine zz ?_
        exact ret1 rfl rfl ⟨by rw [agree, allB_false (k := k) (by omega) (allB_false (k := j) (by omega) (by rw [agreeAt]; exact decide_eq_false hd))], hk2.keep hk3⟩
      · simp only [decide_eq_false_iff_not, Classical.not_not] at hd
        repeat refine zz ?_
        exact ⟨j + 1, ⟨rfl, rfl, rfl, rfl, rfl, trivial⟩, ⟨hk2.keep hk3, by omega, all_step hall2 (by rw [agreeAt]; exact decide_eq_true hd)⟩, by omega⟩
    · simp at hcj
      obtain rfl : j = n := by omega
      repeat refine zz ?_
      exact ⟨k + 1, ⟨rfl, rfl, rfl, rfl, trivial⟩, ⟨hk2, by omega, all_step hall (allB_true (by rwa [← hnx]))⟩, by omega⟩
  · simp at hc
    obtain rfl : k = n := by omega
    repeat refine zz ?_
    exact ret1 rfl rfl ⟨by rw [agree, ← hnx, allB_true (fun i hi => by have := hall i hi; rwa [← hnx] at this)], hk1⟩

set_option maxHeartbeats 1000000 in
theorem impl_AgreeOn_ok {w : World} {va vb vl : Value} {a b : List Nod} {L : List Itm} {fa fb fl : List Nat} (ha : Sl nodeR w va a fa) (hb : Sl nodeR w vb b fb) (hL : Sl itemR w vl L fl) (hna : a.length + totN a ≤ 1048576) (hnb : b.length + totN b ≤ 1048576) :
    Run Try.prog 27 [va, vb, vl] w (fun r w' => r = .bool (agree a b L) ∧ Keep w w') := by
  have hn := hL.le
  obtain ⟨A, n, c, rfl, hnx⟩ := hL.split
  refine Run_intro Try.func27 (by unfold CallOk; kernel_rfl) rfl Try.ntmps27 (Nat.le_of_ble_eq_true rfl) ?_
  simp only [penv, Nat.reduceAdd, Nat.zero_add]
  repeat refine zz ?_
  refine W_loop (S := Nat) (fun k => [(0, va), (1, vb), (2, .slice A n c), (11, .slice A n c), (12, .int .i64 n), (13, .int .i64 (k : Int))]) (fun k w' => Keep w w' ∧ k ≤ n ∧ ∀ i, i < k → (fun i => allB L.length fun j => agreeAt a b L i j) i = true) (fun k => n - k) 0 ⟨rfl, rfl, rfl, rfl, rfl, rfl, trivial⟩ ⟨Keep.refl _, Nat.zero_le _, fun i hi => absurd hi (by omega)⟩ ?_
  rintro k w1 ⟨hk1, hk, hall⟩
  repeat refine zz ?_
  refine W_cond rfl (fun hc => ?_) (fun hc => ?_)
  · have hkn : k < n := by simp at hc; omega
    obtain ⟨hA, u2, f2, hcell, hu2, _⟩ := item_get (hL.keep hk1) (i := (k : Int)) (by omega) (by omega)
    have o2 := hu2.oneCell
    repeat refine zz ?_
    refine o_alloc rfl rfl ?_
    intro bR wR halR
    have hbR0 := halR.blk
    repeat refine zz ?_
    refine o_storeS (b := bR) (off := 0) rfl rfl rfl rfl (by repeat (first | exact ones_nil | refine ones_cons (by first | rfl | assumption) ?_)) rfl hbR0 (by simp) ?_
    intro wS huS
    have hbR : Blk wS bR _ [.int .i64 (gi L (k : Int)).id, u2] := huS.blk
    have hkS := halR.kp.upd huS (Nat.le_of_eq halR.b_eq.symm)
    have hRe := halR.b_eq
    clear hbR0 huS halR
    replace hk1 := hk1.keep hkS
    replace hu2 := hu2.keep hkS
    clear hcell
    have hb2 := hbR
    clear hbR hRe
    repeat refine zz ?_
    refine W_loop (S := Nat) (fun j => [(0, va), (1, vb), (2, .slice A n c), (11, .slice A n c), (12, .int .i64 n), (13, .int .i64 (k : Int)), (8, .pointer (some ⟨bR, 0, none⟩)), (17, .slice A n c), (18, .int .i64 n), (19, .int .i64 (j : Int))]) (fun j w' => Keep wS w' ∧ j ≤ n ∧ ∀ i, i < j → (fun j => agreeAt a b L k j) i = true) (fun j => n - j) 0 ⟨rfl, rfl, rfl, rfl, rfl, rfl, rfl, rfl, rfl, rfl, trivial⟩ ⟨Keep.refl _, Nat.zero_le _, fun i hi => absurd hi (by omega)⟩ ?_
    clear hkS
    rintro j wb ⟨hkb, hj, hall2⟩
    have hLb := hL.keep (hk1.keep hkb)
    repeat refine zz ?_
    refine W_cond rfl (fun hcj => ?_) (fun hcj => ?_)
    · have hjn : j < n := by simp at hcj; omega
      obtain ⟨hA, u1, f1, hcell, hu1, _⟩ := item_get hLb (i := (j : Int)) (by omega) (by omega)
      have o1 := hu1.oneCell
      repeat refine zz ?_
      refine o_alloc rfl rfl ?_
      intro bR wR halR
      have hbR0 := halR.blk
      repeat refine zz ?_
      refine o_storeS (b := bR) (off := 0) rfl rfl rfl rfl (by repeat (first | exact ones_nil | refine ones_cons (by first | rfl | assumption) ?_)) rfl hbR0 (by simp) ?_
      intro wS huS
      have hbR : Blk wS bR _ [.int .i64 (gi L (j : Int)).id, u1] := huS.blk
      have hkS := halR.kp.upd huS (Nat.le_of_eq halR.b_eq.symm)
      have hRe := halR.b_eq
      clear hbR0 huS halR
      replace hkb := hkb.keep hkS
      have hac := ha.keep (hk1.keep hkb)
      have hbc := hb.keep (hk1.keep hkb)
      replace hu1 := hu1.keep hkS
      clear hcell
      have hbO := hb2.keep hkb
      have hu2b := hu2.keep hkb
      repeat refine zz ?_
      refine W_quiet (Keep wS) (by kernel_rfl) (by kernel_rfl) (Keep.drew _) ?_
      repeat refine qq ?_
      refine WQ_call rfl rfl rfl (fun w' hw' => (impl_CompareBy_ok (hac.keep hw') (hu2b.keep hw') (hu1.keep hw') hna).kk hw') ?_
      repeat refine qq ?_
      refine WQ_call rfl rfl rfl (fun w' hw' => (impl_CompareBy_ok (hbc.keep hw') (hu2b.keep hw') (hu1.keep hw') hnb).kk hw') ?_
      repeat refine qq ?_
      intro w3 hk3 
      repeat refine zz ?_
      refine W_cond rfl (fun hd => ?_) (fun hd => ?_)
      · simp only [decide_eq_true_eq] at hd
        repeat refine zz ?_
        exact ret1 rfl rfl ⟨by rw [agree, allB_false (k := k) (by omega) (allB_false (k := j) (by omega) (by rw [agreeAt]; exact decide_eq_false hd))], hk1.keep (hkb.keep hk3)⟩
      · simp only [decide_eq_false_iff_not, Classical.not_not] at hd
        repeat refine zz ?_
        exact ⟨j + 1, ⟨rfl, rfl, rfl, rfl, rfl, rfl, rfl, rfl, rfl, rfl, trivial⟩, ⟨hkb.keep hk3, by omega, all_step hall2 (by rw [agreeAt]; exact decide_eq_true hd)⟩, by omega⟩
    · simp at hcj
      obtain rfl : j = n := by omega
      repeat refine zz ?_
      exact ⟨k + 1, ⟨rfl, rfl, rfl, rfl, rfl, rfl, trivial⟩, ⟨hk1.keep hkb, by omega, all_step hall (allB_true (by rwa [← hnx]))⟩, by omega⟩
  · simp at hc
    obtain rfl : k = n := by omega
    repeat refine zz ?_
    exact ret1 rfl rfl ⟨by rw [agree, ← hnx, allB_true (fun i hi => by have := hall i hi; rwa [← hnx] at this)], hk1⟩

end Go.E

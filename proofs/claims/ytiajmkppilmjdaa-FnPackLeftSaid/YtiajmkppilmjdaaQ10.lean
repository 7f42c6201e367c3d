import Derived.Test.YtiajmkppilmjdaaQ8
set_option linter.unusedSimpArgs false
set_option linter.unusedVariables false
namespace Go.Proofs.Ytiajmkppilmjdaa
open Go.Fw
@[go_sem] def lv70 : List (List Nat) := [[1, 2, 3, 6], [6]]
@[go_sem] def lv88 : List (List Nat) := [[1, 2, 3, 6], [6]]
@[go_sem] def lv90 : List (List Nat) := [[0, 1], [4]]
@[go_sem] def lv84 : List (List Nat) := [[1, 2, 3, 4, 8], [1, 2, 3, 4, 8], [8]]
@[go_sem] def lv89 : List (List Nat) := [[1, 2, 3, 4, 8], [1, 2, 3, 4, 8], [1, 2, 3, 4, 8], [8]]
@[go_sem] def lv83 : List (List Nat) := [[2, 3, 4], [2, 4, 5], [2, 4, 5, 6], [2, 4, 5, 6, 7], [2, 4, 5, 6, 7, 19], [2, 4, 5, 6, 7], [2, 4, 5, 6, 7, 23], [2, 4, 5, 6, 7], [4]]


/-- Rows of which the first ones are done. -/
def mix {α : Type} (ys zs : List α) (k : Nat) : List α := ys.take k ++ zs.drop k
theorem mix_len {α : Type} {ys zs : List α} {k : Nat} (h : ys.length = zs.length) (hk : k ≤ ys.length) : (mix ys zs k).length = zs.length := by
  simp [mix]; omega
theorem mix_at {α : Type} {ys zs : List α} {k : Nat} (h : ys.length = zs.length) (hk : k < zs.length) : (mix ys zs k)[k]? = some zs[k] := by
  unfold mix
  rw [List.getElem?_append_right (by simp; omega)]
  simp only [List.length_take]
  rw [show k - min k ys.length = 0 by omega, List.getElem?_drop, Nat.add_zero, List.getElem?_eq_getElem hk]
theorem mix_set {α : Type} {ys zs : List α} {k : Nat} (h : ys.length = zs.length) (hk : k < ys.length) : (mix ys zs k).set k ys[k] = mix ys zs (k + 1) := by
  unfold mix
  rw [List.set_append_right _ _ (by simp; omega)]
  simp only [List.length_take]
  rw [show k - min k ys.length = 0 by omega, List.drop_eq_getElem_cons (show k < zs.length by omega), List.set_cons_zero, List.take_succ_eq_append_getElem hk, List.append_assoc]
  rfl
theorem mixmap_at {α β : Type} {f : α → β} {ys zs : List α} {k : Nat} (h : ys.length = zs.length) (hk : k < zs.length) : ((mix ys zs k).map f)[k]? = some (f zs[k]) := by
  rw [List.getElem?_map, mix_at h hk, Option.map_some]
theorem mixmap_set {α β : Type} {f : α → β} {ys zs : List α} {k : Nat} (h : ys.length = zs.length) (hk : k < ys.length) : ((mix ys zs k).map f).set k (f ys[k]) = (mix ys zs (k + 1)).map f := by
  rw [← List.map_set, mix_set h hk]
theorem mix_all {α : Type} {ys zs : List α} (h : ys.length = zs.length) : mix ys zs ys.length = ys := by unfold mix; rw [List.take_length, h, List.drop_length, List.append_nil]
theorem mix_zero {α : Type} {ys zs : List α} : mix ys zs 0 = zs := by simp [mix]

def inset (r : Rect) (px py : Int) : Rect := ⟨r.x + min px (r.w.tdiv 2), r.y + min py (r.h.tdiv 2), max 0 (r.w - 2 * px), max 0 (r.h - 2 * py)⟩
def anchored (r : Rect) (w h a : Int) : Rect := ⟨r.x + ((r.w - min w r.w) * (a.tmod 3)).tdiv 2, r.y + ((r.h - min h r.h) * (a.tdiv 3)).tdiv 2, min w r.w, min h r.h⟩
def settled (p : Pack) (q : Rect) : Rect := anchored (inset q p.padX p.padY) (if p.fillX then (inset q p.padX p.padY).w else p.w) (if p.fillY then (inset q p.padX p.padY).h else p.h) p.anchor

theorem tdiv2 {n : Int} (h : 0 ≤ n) : 2 * n.tdiv 2 ≤ n ∧ n < 2 * n.tdiv 2 + 2 := by
  rw [Int.tdiv_eq_ediv_of_nonneg h]; omega
theorem anchor_bd {a : Int} (h : 0 ≤ a ∧ a ≤ 8) : 0 ≤ a.tmod 3 ∧ a.tmod 3 ≤ 2 ∧ 0 ≤ a.tdiv 3 ∧ a.tdiv 3 ≤ 2 := by
  rw [Int.tmod_eq_emod_of_nonneg h.1, Int.tdiv_eq_ediv_of_nonneg h.1]; omega
theorem mul02 {a b : Int} (ha : 0 ≤ a) (hb : 0 ≤ b ∧ b ≤ 2) : 0 ≤ a * b ∧ a * b ≤ 2 * a := by
  have h1 := Int.mul_nonneg ha hb.1
  have h2 := Int.mul_le_mul_of_nonneg_left hb.2 ha
  omega

theorem inset_in {r : Rect} {px py : Int} (h : RectIn r) (hx : 0 ≤ px) (hy : 0 ≤ py) : RectIn (inset r px py) ∧ r.x ≤ (inset r px py).x ∧ r.y ≤ (inset r px py).y ∧
    (inset r px py).x + (inset r px py).w ≤ r.x + r.w ∧ (inset r px py).y + (inset r px py).h ≤ r.y + r.h := by
  obtain ⟨h1, h2, h3, h4, h5, h6⟩ := h
  have e1 := tdiv2 h3
  have e2 := tdiv2 h4
  unfold inset
  refine ⟨⟨?_, ?_, ?_, ?_, ?_, ?_⟩, ?_⟩ <;> simp only <;> omega

theorem anchored_in {r : Rect} {w h a : Int} (hr : RectIn r) (hw : 0 ≤ w) (hh : 0 ≤ h) (ha : 0 ≤ a ∧ a ≤ 8) : RectIn (anchored r w h a) ∧ r.x ≤ (anchored r w h a).x ∧ r.y ≤ (anchored r w h a).y ∧
    (anchored r w h a).x + (anchored r w h a).w ≤ r.x + r.w ∧ (anchored r w h a).y + (anchored r w h a).h ≤ r.y + r.h := by
  obtain ⟨h1, h2, h3, h4, h5, h6⟩ := hr
  have hb := anchor_bd ha
  have m1 := mul02 (a := r.w - min w r.w) (b := a.tmod 3) (by omega) (by omega)
  have m2 := mul02 (a := r.h - min h r.h) (b := a.tdiv 3) (by omega) (by omega)
  have e1 := tdiv2 m1.1
  have e2 := tdiv2 m2.1
  unfold anchored
  refine ⟨⟨?_, ?_, ?_, ?_, ?_, ?_⟩, ?_⟩ <;> simp only <;> omega

theorem c_insetI (r : Rect) (px py : Int) (hr : RectIn r) (hx : 0 ≤ px ∧ px ≤ 10) (hy : 0 ≤ py ∧ py ≤ 10) :
    ACon Try.prog 70 [vRect r, .d (.int .i64 px), .d (.int .i64 py)] [] (Is (vRect (inset r px py))) := by
  have ⟨h1, h2, h3, h4, h5, h6⟩ := hr
  have e1 := tdiv2 h3
  have e2 := tdiv2 h4
  refine ACon.introW tok (nt := 36) Try.func70 rfl rfl rfl (by kernel_rfl) rfl ?_
  repeat' (first | ((with_reducible apply xsim); (first | ((with_reducible apply xo); exact rfl) | ((with_reducible apply xst); exact rfl) | with_reducible apply xend | ((with_reducible apply xalloc); exact rfl; simp only [backV, backVs, backVs_mapd, backId, backO, List.map_cons, List.map_nil, List.getElem?_nil, List.length_cons, List.length_nil, Nat.reduceAdd, Nat.reduceSub, List.cons_append, List.nil_append, List.append_nil]) | ((with_reducible apply xbox); exact rfl; simp only [backV, backVs, backVs_mapd, backId, backO, List.map_cons, List.map_nil, List.getElem?_nil, List.length_cons, List.length_nil, Nat.reduceAdd, Nat.reduceSub, List.cons_append, List.nil_append, List.append_nil]) | simp -implicitDefEqProofs only [go_sem, Int.reduceEq, Int.reduceLT, Int.reduceLE, Nat.reduceAdd, Nat.reduceSub, Nat.reduceMul, Nat.reduceEqDiff, Nat.reduceLeDiff, Nat.reducePow, ↓reduceIte, reduceCtorEq])) | ((with_reducible apply xaw); (first | ((with_reducible apply xstepS); refine AW.step tok rfl ?_) | ((with_reducible apply xstep); refine AW.region tok rfl ?_) | with_reducible (first | refine AW.seq ?_ | refine AW.block ?_ | refine AW.skip ?_ | refine AW.ret ?_ | refine AW.exit ?_) | ((with_reducible apply xcond); exact rfl))) | with_reducible (first | refine xthen ?_ | refine xthen_r ?_ | refine xthen_e ?_ | refine xblock ?_ | refine xblock_r ?_ | refine xblock_e ?_ | refine xblock_n rfl ?_ | refine xround_r ?_ | refine xround_e ?_) | (with_reducible intro hc; (try simp only [decide_eq_true_eq, decide_eq_false_iff_not, Bool.not_true, Bool.not_false, Bool.not_eq_true', Bool.not_eq_false', ne_eq, not_true, reduceCtorEq] at hc); (try (exfalso; omega))) | with_reducible (first | exact trivial | refine And.intro ?_ ?_ | exact rfl | exact Nat.le_refl _) | exact Eq.refl true | exact (rfl : (_ : List Nat) = _) | exact Nat.le_of_ble_eq_true rfl | (refine inR_i64.mpr ?_; first | omega | (simp only [List.length_map]; omega)) | omega)
  all_goals (refine xfinIs (by first | exact .inl rfl | exact .inr rfl) rfl (by repeat' (first | exact trivial | exact rfl | refine And.intro ?_ ?_)) rfl ?_ rfl; first | with_reducible exact rfl | (simp -implicitDefEqProofs only [go_sem, Int.reduceEq, Int.reduceLT, Int.reduceLE, Nat.reduceAdd, Nat.reduceSub, Nat.reduceMul, Nat.reduceEqDiff, Nat.reduceLeDiff, Nat.reducePow, ↓reduceIte, reduceCtorEq, inset, Int.max_comm] <;> (first | rfl | omega | exact decide_eq_decide.2 (by omega) | exact decide_eq_false (by omega) | exact decide_eq_true (by omega) | (symm; first | exact decide_eq_false (by omega) | exact decide_eq_true (by omega)))))

theorem c_insetS (r : Rect) (px py : Int) (hr : RectIn r) (hx : 0 ≤ px ∧ px ≤ 10) (hy : 0 ≤ py ∧ py ≤ 10) :
    ACon Try.prog 88 [vRect r, .d (.int .i64 px), .d (.int .i64 py)] [] (Is (vRect (inset r px py))) := by
  have ⟨h1, h2, h3, h4, h5, h6⟩ := hr
  have e1 := tdiv2 h3
  have e2 := tdiv2 h4
  refine ACon.introW tok (nt := 36) Try.func88 rfl rfl rfl (by kernel_rfl) rfl ?_
  repeat' (first | ((with_reducible apply xsim); (first | ((with_reducible apply xo); exact rfl) | ((with_reducible apply xst); exact rfl) | with_reducible apply xend | ((with_reducible apply xalloc); exact rfl; simp only [backV, backVs, backVs_mapd, backId, backO, List.map_cons, List.map_nil, List.getElem?_nil, List.length_cons, List.length_nil, Nat.reduceAdd, Nat.reduceSub, List.cons_append, List.nil_append, List.append_nil]) | ((with_reducible apply xbox); exact rfl; simp only [backV, backVs, backVs_mapd, backId, backO, List.map_cons, List.map_nil, List.getElem?_nil, List.length_cons, List.length_nil, Nat.reduceAdd, Nat.reduceSub, List.cons_append, List.nil_append, List.append_nil]) | simp -implicitDefEqProofs only [go_sem, Int.reduceEq, Int.reduceLT, Int.reduceLE, Nat.reduceAdd, Nat.reduceSub, Nat.reduceMul, Nat.reduceEqDiff, Nat.reduceLeDiff, Nat.reducePow, ↓reduceIte, reduceCtorEq])) | ((with_reducible apply xaw); (first | ((with_reducible apply xstepS); refine AW.step tok rfl ?_) | ((with_reducible apply xstep); refine AW.region tok rfl ?_) | with_reducible (first | refine AW.seq ?_ | refine AW.block ?_ | refine AW.skip ?_ | refine AW.ret ?_ | refine AW.exit ?_) | ((with_reducible apply xcond); exact rfl))) | with_reducible (first | refine xthen ?_ | refine xthen_r ?_ | refine xthen_e ?_ | refine xblock ?_ | refine xblock_r ?_ | refine xblock_e ?_ | refine xblock_n rfl ?_ | refine xround_r ?_ | refine xround_e ?_) | (with_reducible intro hc; (try simp only [decide_eq_true_eq, decide_eq_false_iff_not, Bool.not_true, Bool.not_false, Bool.not_eq_true', Bool.not_eq_false', ne_eq, not_true, reduceCtorEq] at hc); (try (exfalso; omega))) | with_reducible (first | exact trivial | refine And.intro ?_ ?_ | exact rfl | exact Nat.le_refl _) | exact Eq.refl true | exact (rfl : (_ : List Nat) = _) | exact Nat.le_of_ble_eq_true rfl | (refine inR_i64.mpr ?_; first | omega | (simp only [List.length_map]; omega)) | omega)
  all_goals (refine xfinIs (by first | exact .inl rfl | exact .inr rfl) rfl (by repeat' (first | exact trivial | exact rfl | refine And.intro ?_ ?_)) rfl ?_ rfl; first | with_reducible exact rfl | (simp -implicitDefEqProofs only [go_sem, Int.reduceEq, Int.reduceLT, Int.reduceLE, Nat.reduceAdd, Nat.reduceSub, Nat.reduceMul, Nat.reduceEqDiff, Nat.reduceLeDiff, Nat.reducePow, ↓reduceIte, reduceCtorEq, inset] <;> (first | rfl | omega | exact decide_eq_decide.2 (by omega) | exact decide_eq_false (by omega) | exact decide_eq_true (by omega) | (symm; first | exact decide_eq_false (by omega) | exact decide_eq_true (by omega)))))

theorem c_part (n a : Int) (h : 0 ≤ n * a ∧ n * a ≤ 2^20) : ACon Try.prog 90 [.d (.int .i64 n), .d (.int .i64 a)] [] (Is (.d (.int .i64 ((n * a).tdiv 2)))) := by
  have e := tdiv2 h.1
  refine ACon.introW tok (nt := 9) Try.func90 rfl rfl rfl (by kernel_rfl) rfl ?_
  repeat' (first | ((with_reducible apply xsim); (first | ((with_reducible apply xo); exact rfl) | with_reducible apply xend | simp -implicitDefEqProofs only [go_sem, Int.reduceEq, Int.reduceLT, Int.reduceLE, Nat.reduceAdd, Nat.reduceSub, Nat.reduceMul, Nat.reduceEqDiff, Nat.reduceLeDiff, Nat.reducePow, ↓reduceIte, reduceCtorEq])) | ((with_reducible apply xaw); (first | ((with_reducible apply xstepS); refine AW.step tok rfl ?_) | ((with_reducible apply xstep); refine AW.region tok rfl ?_) | with_reducible (first | refine AW.seq ?_ | refine AW.block ?_ | refine AW.skip ?_ | refine AW.ret ?_ | refine AW.exit ?_) | ((with_reducible apply xcond); exact rfl))) | with_reducible (first | refine xthen ?_ | refine xthen_r ?_ | refine xthen_e ?_ | refine xblock ?_ | refine xblock_r ?_ | refine xblock_e ?_ | refine xblock_n rfl ?_ | refine xround_r ?_ | refine xround_e ?_) | (with_reducible intro hc; (try simp only [decide_eq_true_eq, decide_eq_false_iff_not, Bool.not_true, Bool.not_false, Bool.not_eq_true', Bool.not_eq_false', ne_eq, not_true, reduceCtorEq] at hc); (try (exfalso; omega))) | with_reducible (first | exact trivial | refine And.intro ?_ ?_ | exact rfl | exact Nat.le_refl _) | exact Eq.refl true | exact (rfl : (_ : List Nat) = _) | exact Nat.le_of_ble_eq_true rfl | (refine inR_i64.mpr ?_; first | omega | (simp only [List.length_map]; omega)) | omega)
  all_goals (refine xfinIs (by first | exact .inl rfl | exact .inr rfl) rfl (by repeat' (first | exact trivial | exact rfl | refine And.intro ?_ ?_)) rfl ?_ rfl; first | with_reducible exact rfl | (simp -implicitDefEqProofs only [go_sem, Int.reduceEq, Int.reduceLT, Int.reduceLE, Nat.reduceAdd, Nat.reduceSub, Nat.reduceMul, Nat.reduceEqDiff, Nat.reduceLeDiff, Nat.reducePow, ↓reduceIte, reduceCtorEq] <;> (first | rfl | omega | exact decide_eq_decide.2 (by omega) | exact decide_eq_false (by omega) | exact decide_eq_true (by omega) | (symm; first | exact decide_eq_false (by omega) | exact decide_eq_true (by omega)))))

theorem c_anchoredI (r : Rect) (w h a : Int) (hr : RectIn r) (hw : 0 ≤ w ∧ w ≤ 400) (hh : 0 ≤ h ∧ h ≤ 400) (ha : 0 ≤ a ∧ a ≤ 8) :
    ACon Try.prog 84 [vRect r, .d (.int .i64 w), .d (.int .i64 h), .d (.int .i64 a)] [] (Is (vRect (anchored r w h a))) := by
  have ⟨h1, h2, h3, h4, h5, h6⟩ := hr
  have hb := anchor_bd ha
  have m1 := mul02 (a := r.w - min w r.w) (b := a.tmod 3) (by omega) (by omega)
  have m2 := mul02 (a := r.h - min h r.h) (b := a.tdiv 3) (by omega) (by omega)
  have e1 := tdiv2 m1.1
  have e2 := tdiv2 m2.1
  refine ACon.introW tok (nt := 40) Try.func84 rfl rfl rfl (by kernel_rfl) rfl ?_
  repeat' (first | ((with_reducible apply xsim); (first | ((with_reducible apply xo); exact rfl) | ((with_reducible apply xst); exact rfl) | with_reducible apply xend | ((with_reducible apply xalloc); exact rfl; simp only [backV, backVs, backVs_mapd, backId, backO, List.map_cons, List.map_nil, List.getElem?_nil, List.length_cons, List.length_nil, Nat.reduceAdd, Nat.reduceSub, List.cons_append, List.nil_append, List.append_nil]) | ((with_reducible apply xbox); exact rfl; simp only [backV, backVs, backVs_mapd, backId, backO, List.map_cons, List.map_nil, List.getElem?_nil, List.length_cons, List.length_nil, Nat.reduceAdd, Nat.reduceSub, List.cons_append, List.nil_append, List.append_nil]) | ((with_reducible apply xcallIs); exact rfl; exact rfl; exact c_part _ _ (by omega); exact rfl) | simp -implicitDefEqProofs only [go_sem, Int.reduceEq, Int.reduceLT, Int.reduceLE, Nat.reduceAdd, Nat.reduceSub, Nat.reduceMul, Nat.reduceEqDiff, Nat.reduceLeDiff, Nat.reducePow, ↓reduceIte, reduceCtorEq])) | ((with_reducible apply xaw); (first | ((with_reducible apply xstepS); refine AW.step tok rfl ?_) | ((with_reducible apply xstep); refine AW.region tok rfl ?_) | with_reducible (first | refine AW.seq ?_ | refine AW.block ?_ | refine AW.skip ?_ | refine AW.ret ?_ | refine AW.exit ?_) | ((with_reducible apply xcond); exact rfl) | ((with_reducible apply xdrawS (id := 1)); refine AW.drawS (id := 1) (.q 0 (.q 1 (.q 2 (.q 3 (.q 4 (.q 5 (.q 6 (.q 7 (.e 8 (.e 9 (.fin))))))))))) tok (by kernel_rfl) rfl (by kernel_rfl) ?_) | ((with_reducible apply xdraw (id := 1)); refine AW.draw (id := 1) (.q 0 (.q 1 (.q 2 (.q 3 (.q 4 (.q 5 (.q 6 (.q 7 (.e 8 (.e 9 (.fin))))))))))) tok (by kernel_rfl) rfl (by kernel_rfl) ?_) | ((with_reducible apply xdrawS (id := 2)); refine AW.drawS (id := 2) (.q 0 (.q 1 (.q 2 (.q 3 (.q 4 (.q 5 (.q 6 (.q 7 (.q 8 (.q 9 (.q 10 (.q 11 (.q 12 (.q 13 (.q 14 (.q 15 (.q 16 (.q 17 (.q 18 (.q 19 (.q 20 (.q 21 (.q 22 (.e 23 (.fin))))))))))))))))))))))))) tok (by kernel_rfl) rfl (by kernel_rfl) ?_) | ((with_reducible apply xdraw (id := 2)); refine AW.draw (id := 2) (.q 0 (.q 1 (.q 2 (.q 3 (.q 4 (.q 5 (.q 6 (.q 7 (.q 8 (.q 9 (.q 10 (.q 11 (.q 12 (.q 13 (.q 14 (.q 15 (.q 16 (.q 17 (.q 18 (.q 19 (.q 20 (.q 21 (.q 22 (.e 23 (.fin))))))))))))))))))))))))) tok (by kernel_rfl) rfl (by kernel_rfl) ?_))) | ((with_reducible apply xarun); (first | ((with_reducible apply xrun_q); exact rfl; exact rfl; exact rfl) | ((with_reducible apply xrun_c); exact rfl; exact rfl; exact rfl; exact rfl; exact rfl; exact rfl; exact c_part _ _ (by omega); exact rfl) | ((with_reducible apply xrun_e); exact rfl) | with_reducible apply xrun_f)) | with_reducible (first | refine xthen ?_ | refine xthen_r ?_ | refine xthen_e ?_ | refine xblock ?_ | refine xblock_r ?_ | refine xblock_e ?_ | refine xblock_n rfl ?_ | refine xround_r ?_ | refine xround_e ?_) | (with_reducible intro hc; (try simp only [decide_eq_true_eq, decide_eq_false_iff_not, Bool.not_true, Bool.not_false, Bool.not_eq_true', Bool.not_eq_false', ne_eq, not_true, reduceCtorEq] at hc); (try (exfalso; omega))) | with_reducible (first | exact trivial | refine And.intro ?_ ?_ | exact rfl | exact Nat.le_refl _) | exact Eq.refl true | exact (rfl : (_ : List Nat) = _) | exact Nat.le_of_ble_eq_true rfl | (refine inR_i64.mpr ?_; first | omega | (simp only [List.length_map]; omega)) | omega)
  all_goals (refine xfinIs (by first | exact .inl rfl | exact .inr rfl) rfl (by repeat' (first | exact trivial | exact rfl | refine And.intro ?_ ?_)) rfl ?_ rfl; first | with_reducible exact rfl | (simp -implicitDefEqProofs only [go_sem, Int.reduceEq, Int.reduceLT, Int.reduceLE, Nat.reduceAdd, Nat.reduceSub, Nat.reduceMul, Nat.reduceEqDiff, Nat.reduceLeDiff, Nat.reducePow, ↓reduceIte, reduceCtorEq, anchored] <;> (first | rfl | omega | exact decide_eq_decide.2 (by omega) | exact decide_eq_false (by omega) | exact decide_eq_true (by omega) | (symm; first | exact decide_eq_false (by omega) | exact decide_eq_true (by omega)))))

theorem c_anchoredS (r : Rect) (w h a : Int) (hr : RectIn r) (hw : 0 ≤ w ∧ w ≤ 400) (hh : 0 ≤ h ∧ h ≤ 400) (ha : 0 ≤ a ∧ a ≤ 8) :
    ACon Try.prog 89 [vRect r, .d (.int .i64 w), .d (.int .i64 h), .d (.int .i64 a)] [] (Is (vRect (anchored r w h a))) := by
  have ⟨h1, h2, h3, h4, h5, h6⟩ := hr
  have hb := anchor_bd ha
  have m1 := mul02 (a := r.w - min w r.w) (b := a.tmod 3) (by omega) (by omega)
  have m2 := mul02 (a := r.h - min h r.h) (b := a.tdiv 3) (by omega) (by omega)
  have e1 := tdiv2 m1.1
  have e2 := tdiv2 m2.1
  refine ACon.introW tok (nt := 42) Try.func89 rfl rfl rfl (by kernel_rfl) rfl ?_
  repeat' (first | ((with_reducible apply xsim); (first | ((with_reducible apply xo); exact rfl) | ((with_reducible apply xst); exact rfl) | with_reducible apply xend | ((with_reducible apply xalloc); exact rfl; simp only [backV, backVs, backVs_mapd, backId, backO, List.map_cons, List.map_nil, List.getElem?_nil, List.length_cons, List.length_nil, Nat.reduceAdd, Nat.reduceSub, List.cons_append, List.nil_append, List.append_nil]) | ((with_reducible apply xbox); exact rfl; simp only [backV, backVs, backVs_mapd, backId, backO, List.map_cons, List.map_nil, List.getElem?_nil, List.length_cons, List.length_nil, Nat.reduceAdd, Nat.reduceSub, List.cons_append, List.nil_append, List.append_nil]) | simp -implicitDefEqProofs only [go_sem, Int.reduceEq, Int.reduceLT, Int.reduceLE, Nat.reduceAdd, Nat.reduceSub, Nat.reduceMul, Nat.reduceEqDiff, Nat.reduceLeDiff, Nat.reducePow, ↓reduceIte, reduceCtorEq])) | ((with_reducible apply xaw); (first | ((with_reducible apply xstepS); refine AW.step tok rfl ?_) | ((with_reducible apply xstep); refine AW.region tok rfl ?_) | with_reducible (first | refine AW.seq ?_ | refine AW.block ?_ | refine AW.skip ?_ | refine AW.ret ?_ | refine AW.exit ?_) | ((with_reducible apply xcond); exact rfl))) | with_reducible (first | refine xthen ?_ | refine xthen_r ?_ | refine xthen_e ?_ | refine xblock ?_ | refine xblock_r ?_ | refine xblock_e ?_ | refine xblock_n rfl ?_ | refine xround_r ?_ | refine xround_e ?_) | (with_reducible intro hc; (try simp only [decide_eq_true_eq, decide_eq_false_iff_not, Bool.not_true, Bool.not_false, Bool.not_eq_true', Bool.not_eq_false', ne_eq, not_true, reduceCtorEq] at hc); (try (exfalso; omega))) | with_reducible (first | exact trivial | refine And.intro ?_ ?_ | exact rfl | exact Nat.le_refl _) | exact Eq.refl true | exact (rfl : (_ : List Nat) = _) | exact Nat.le_of_ble_eq_true rfl | (refine inR_i64.mpr ?_; first | omega | (simp only [List.length_map]; omega)) | omega)
  all_goals (refine xfinIs (by first | exact .inl rfl | exact .inr rfl) rfl (by repeat' (first | exact trivial | exact rfl | refine And.intro ?_ ?_)) rfl ?_ rfl; first | with_reducible exact rfl | (simp -implicitDefEqProofs only [go_sem, Int.reduceEq, Int.reduceLT, Int.reduceLE, Nat.reduceAdd, Nat.reduceSub, Nat.reduceMul, Nat.reduceEqDiff, Nat.reduceLeDiff, Nat.reducePow, ↓reduceIte, reduceCtorEq, anchored] <;> (first | rfl | omega | exact decide_eq_decide.2 (by omega) | exact decide_eq_false (by omega) | exact decide_eq_true (by omega) | (symm; first | exact decide_eq_false (by omega) | exact decide_eq_true (by omega)))))

theorem c_settled (p : Pack) (q : Rect) (hp : validPack p = true) (hq : RectIn q) : ACon Try.prog 83 [vPack p, vRect q] [] (Is (vRect (settled p q))) := by
  have hv := validPack_iff.1 hp
  have hi := (inset_in (px := p.padX) (py := p.padY) hq (by omega) (by omega)).1
  have ⟨h1, h2, h3, h4, h5, h6⟩ := hi
  refine ACon.introW tok (nt := 32) Try.func83 rfl rfl rfl (by kernel_rfl) rfl ?_
  cases hx : p.fillX <;> cases hy : p.fillY
  all_goals repeat' (first | ((with_reducible apply xsim); (first | ((with_reducible apply xo); exact rfl) | ((with_reducible apply xst); exact rfl) | with_reducible apply xend | ((with_reducible apply xalloc); exact rfl; simp only [backV, backVs, backVs_mapd, backId, backO, List.map_cons, List.map_nil, List.getElem?_nil, List.length_cons, List.length_nil, Nat.reduceAdd, Nat.reduceSub, List.cons_append, List.nil_append, List.append_nil]) | ((with_reducible apply xbox); exact rfl; simp only [backV, backVs, backVs_mapd, backId, backO, List.map_cons, List.map_nil, List.getElem?_nil, List.length_cons, List.length_nil, Nat.reduceAdd, Nat.reduceSub, List.cons_append, List.nil_append, List.append_nil]) | ((with_reducible apply xcallIs); exact rfl; exact rfl; (first | exact c_insetS q p.padX p.padY hq (by omega) (by omega) | exact c_anchoredS _ _ _ _ hi (by omega) (by omega) (by omega)); exact rfl) | simp -implicitDefEqProofs only [go_sem, Int.reduceEq, Int.reduceLT, Int.reduceLE, Nat.reduceAdd, Nat.reduceSub, Nat.reduceMul, Nat.reduceEqDiff, Nat.reduceLeDiff, Nat.reducePow, ↓reduceIte, reduceCtorEq, hx, hy])) | ((with_reducible apply xaw); (first | ((with_reducible apply xstepS); refine AW.step tok rfl ?_) | ((with_reducible apply xstep); refine AW.region tok rfl ?_) | with_reducible (first | refine AW.seq ?_ | refine AW.block ?_ | refine AW.skip ?_ | refine AW.ret ?_ | refine AW.exit ?_) | ((with_reducible apply xcond); exact rfl))) | with_reducible (first | refine xthen ?_ | refine xthen_r ?_ | refine xthen_e ?_ | refine xblock ?_ | refine xblock_r ?_ | refine xblock_e ?_ | refine xblock_n rfl ?_ | refine xround_r ?_ | refine xround_e ?_) | (with_reducible intro hc; (try simp only [decide_eq_true_eq, decide_eq_false_iff_not, Bool.not_true, Bool.not_false, Bool.not_eq_true', Bool.not_eq_false', ne_eq, not_true, reduceCtorEq, hx, hy] at hc); (try (exfalso; omega))) | with_reducible (first | exact trivial | refine And.intro ?_ ?_ | exact rfl | exact Nat.le_refl _) | exact Eq.refl true | exact (rfl : (_ : List Nat) = _) | exact Nat.le_of_ble_eq_true rfl | (refine inR_i64.mpr ?_; first | omega | (simp only [List.length_map, hx, hy]; omega)) | omega)
  all_goals (refine xfinIs (by first | exact .inl rfl | exact .inr rfl) rfl (by repeat' (first | exact trivial | exact rfl | refine And.intro ?_ ?_)) rfl ?_ rfl; first | with_reducible exact rfl | (simp -implicitDefEqProofs only [go_sem, Int.reduceEq, Int.reduceLT, Int.reduceLE, Nat.reduceAdd, Nat.reduceSub, Nat.reduceMul, Nat.reduceEqDiff, Nat.reduceLeDiff, Nat.reducePow, ↓reduceIte, reduceCtorEq, settled, hx, hy] <;> (first | rfl | omega | exact decide_eq_decide.2 (by omega) | exact decide_eq_false (by omega) | exact decide_eq_true (by omega) | (symm; first | exact decide_eq_false (by omega) | exact decide_eq_true (by omega)))))
end Go.Proofs.Ytiajmkppilmjdaa

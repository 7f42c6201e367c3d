import Derived.Test.YtemihgpcodcjgaaR10
set_option linter.unusedSimpArgs false
set_option linter.unusedVariables false
namespace Go.Proofs.Ytemihgpcodcjgaa
open Go.Fw
@[go_sem] def lv89 : List (List Nat) := [[0, 1], [4]]
@[go_sem] def lv92 : List (List Nat) := [[0, 1], [4]]
@[go_sem] def lv123 : List (List Nat) := [[1, 2, 3, 6], [6]]
@[go_sem] def lv125 : List (List Nat) := [[1, 2, 3, 6], [6]]
@[go_sem] def lv100 : List (List Nat) := [[2, 3], [2, 3, 9], [4], [2, 3, 14], [4], [2, 3, 19], [4], [24], [4], [4]]
@[go_sem] def lv55 : List (List Nat) := [[0, 1], [0, 1, 10], [4], [0, 1, 5], [0, 1, 5, 14], [0, 1, 5], [0, 1, 5, 26], [4], [4]]


structure Rect where
  x : Int
  y : Int
  w : Int
  h : Int
@[go_sem] def encRect (r : Rect) : List D := [.int .i64 r.x, .int .i64 r.y, .int .i64 r.w, .int .i64 r.h]
@[go_sem] def vRect (r : Rect) : V := .agg ((encRect r).map .d)

/-- The numbers are small. -/
structure RectSm (r : Rect) : Prop where
  x : -2^40 < r.x ∧ r.x < 2^40
  y : -2^40 < r.y ∧ r.y < 2^40
  w : -2^40 < r.w ∧ r.w < 2^40
  h : -2^40 < r.h ∧ r.h < 2^40

/-- A rectangle in the room. -/
structure RectIn (r : Rect) : Prop where
  x : 0 ≤ r.x
  y : 0 ≤ r.y
  w : 0 ≤ r.w
  h : 0 ≤ r.h
  xw : r.x + r.w ≤ 400
  yh : r.y + r.h ≤ 400
theorem RectIn.sm {r : Rect} (h : RectIn r) : RectSm r := by
  obtain ⟨h1, h2, h3, h4, h5, h6⟩ := h
  constructor <;> omega

def roomOk (w h : Int) : Bool := decide (0 ≤ w ∧ w ≤ 400 ∧ 0 ≤ h ∧ h ≤ 400)
theorem roomOk_iff {w h : Int} (hr : roomOk w h = true) : 0 ≤ w ∧ w ≤ 400 ∧ 0 ≤ h ∧ h ≤ 400 := by simpa [roomOk] using hr
theorem c_sizeOk (w h : Int) : ACon Try.prog 89 [.d (.int .i64 w), .d (.int .i64 h)] [] (Is (.d (.bool (roomOk w h)))) := by
  refine ACon.introW tok (nt := 11) Try.func89 rfl rfl rfl (by kernel_rfl) rfl ?_
  repeat' (first | ((with_reducible apply xsim); (first | ((with_reducible apply xo); exact rfl) | with_reducible apply xend | ((with_reducible apply xguardS); exact rfl; exact rfl) | ((with_reducible apply xcallIs); exact rfl; exact rfl; exact c_within _ _ _; exact rfl))) | ((with_reducible apply xaw); (first | ((with_reducible apply xstepS); refine AW.step tok rfl ?_) | with_reducible (first | refine AW.seq ?_ | refine AW.block ?_ | refine AW.skip ?_ | refine AW.ret ?_ | refine AW.exit ?_))) | (with_reducible intro hc; (try simp only [decide_eq_true_eq, decide_eq_false_iff_not, Bool.not_true, Bool.not_false, Bool.not_eq_true', Bool.not_eq_false', ne_eq, not_true, reduceCtorEq] at hc); (try (exfalso; omega))) | with_reducible (first | exact trivial | refine And.intro ?_ ?_ | exact rfl | exact Nat.le_refl _))
  all_goals (refine xfinIs (by first | exact .inl rfl | exact .inr rfl) rfl (by repeat' (first | exact trivial | exact rfl | refine And.intro ?_ ?_)) rfl ?_ rfl; first | (simp -implicitDefEqProofs only [go_sem, Int.reduceEq, Int.reduceLT, Int.reduceLE, Nat.reduceAdd, Nat.reduceSub, Nat.reduceMul, Nat.reduceEqDiff, Nat.reduceLeDiff, Nat.reducePow, ↓reduceIte, reduceCtorEq, roomOk] <;> (first | rfl | omega | exact decide_eq_decide.2 (by omega) | exact decide_eq_false (by omega) | exact decide_eq_true (by omega) | (symm; first | exact decide_eq_false (by omega) | exact decide_eq_true (by omega)) | (rw [Bool.eq_iff_iff]; simp only [Bool.not_eq_true', Bool.not_eq_false', Bool.and_eq_true, Bool.or_eq_true, decide_eq_true_eq, decide_eq_false_iff_not, reduceCtorEq, true_iff, iff_true, false_iff, iff_false]; omega))))
theorem c_goodRoom (w h : Int) : ACon Try.prog 92 [.d (.int .i64 w), .d (.int .i64 h)] [] (Is (.d (.bool (roomOk w h)))) := by
  refine ACon.introW tok (nt := 11) Try.func92 rfl rfl rfl (by kernel_rfl) rfl ?_
  repeat' (first | ((with_reducible apply xsim); (first | ((with_reducible apply xo); exact rfl) | with_reducible apply xend | ((with_reducible apply xguardS); exact rfl; exact rfl) | ((with_reducible apply xcallIs); exact rfl; exact rfl; exact c_inRange _ _ _; exact rfl))) | ((with_reducible apply xaw); (first | ((with_reducible apply xstepS); refine AW.step tok rfl ?_) | with_reducible (first | refine AW.seq ?_ | refine AW.block ?_ | refine AW.skip ?_ | refine AW.ret ?_ | refine AW.exit ?_))) | (with_reducible intro hc; (try simp only [decide_eq_true_eq, decide_eq_false_iff_not, Bool.not_true, Bool.not_false, Bool.not_eq_true', Bool.not_eq_false', ne_eq, not_true, reduceCtorEq] at hc); (try (exfalso; omega))) | with_reducible (first | exact trivial | refine And.intro ?_ ?_ | exact rfl | exact Nat.le_refl _))
  all_goals (refine xfinIs (by first | exact .inl rfl | exact .inr rfl) rfl (by repeat' (first | exact trivial | exact rfl | refine And.intro ?_ ?_)) rfl ?_ rfl; first | (simp -implicitDefEqProofs only [go_sem, Int.reduceEq, Int.reduceLT, Int.reduceLE, Nat.reduceAdd, Nat.reduceSub, Nat.reduceMul, Nat.reduceEqDiff, Nat.reduceLeDiff, Nat.reducePow, ↓reduceIte, reduceCtorEq, roomOk] <;> (first | rfl | omega | exact decide_eq_decide.2 (by omega) | exact decide_eq_false (by omega) | exact decide_eq_true (by omega) | (symm; first | exact decide_eq_false (by omega) | exact decide_eq_true (by omega)) | (rw [Bool.eq_iff_iff]; simp only [Bool.not_eq_true', Bool.not_eq_false', Bool.and_eq_true, Bool.or_eq_true, decide_eq_true_eq, decide_eq_false_iff_not, reduceCtorEq, true_iff, iff_true, false_iff, iff_false]; omega))))

def inset (r : Rect) (px py : Int) : Rect := ⟨r.x + min px (r.w.tdiv 2), r.y + min py (r.h.tdiv 2), max 0 (r.w - 2 * px), max 0 (r.h - 2 * py)⟩
theorem tdiv2 {n : Int} (h : 0 ≤ n) : 2 * n.tdiv 2 ≤ n ∧ n < 2 * n.tdiv 2 + 2 := by
  rw [Int.tdiv_eq_ediv_of_nonneg h]; omega
theorem c_insetI (r : Rect) (px py : Int) (hr : RectSm r) (h3 : 0 ≤ r.w) (h4 : 0 ≤ r.h) (hx : 0 ≤ px ∧ px ≤ 10) (hy : 0 ≤ py ∧ py ≤ 10) :
    ACon Try.prog 123 [vRect r, .d (.int .i64 px), .d (.int .i64 py)] [] (Is (vRect (inset r px py))) := by
  have ⟨h1, h2, g3, g4⟩ := hr
  have e1 := tdiv2 h3
  have e2 := tdiv2 h4
  refine ACon.introW tok (nt := 36) Try.func123 rfl rfl rfl (by kernel_rfl) rfl ?_
  repeat' (first | ((with_reducible apply xsim); (first | ((with_reducible apply xo); exact rfl) | ((with_reducible apply xst); exact rfl) | with_reducible apply xend | ((with_reducible apply xalloc); exact rfl; simp only [backV, backVs, backVs_mapd, backId, backO, List.map_cons, List.map_nil, List.getElem?_nil, List.length_cons, List.length_nil, Nat.reduceAdd, Nat.reduceSub, List.cons_append, List.nil_append, List.append_nil]) | ((with_reducible apply xbox); exact rfl; simp only [backV, backVs, backVs_mapd, backId, backO, List.map_cons, List.map_nil, List.getElem?_nil, List.length_cons, List.length_nil, Nat.reduceAdd, Nat.reduceSub, List.cons_append, List.nil_append, List.append_nil]))) | ((with_reducible apply xaw); (first | ((with_reducible apply xstepS); refine AW.step tok rfl ?_) | with_reducible (first | refine AW.seq ?_ | refine AW.block ?_ | refine AW.skip ?_ | refine AW.ret ?_ | refine AW.exit ?_))) | with_reducible (first | exact trivial | refine And.intro ?_ ?_ | exact rfl | exact Nat.le_refl _) | exact Eq.refl true | (refine inR_i64.mpr ?_; first | omega | (simp only [List.length_map]; omega)) | omega)
  all_goals (refine xfinIs (by first | exact .inl rfl | exact .inr rfl) rfl (by repeat' (first | exact trivial | exact rfl | refine And.intro ?_ ?_)) rfl ?_ rfl; first | (simp -implicitDefEqProofs only [go_sem, Int.reduceEq, Int.reduceLT, Int.reduceLE, Nat.reduceAdd, Nat.reduceSub, Nat.reduceMul, Nat.reduceEqDiff, Nat.reduceLeDiff, Nat.reducePow, ↓reduceIte, reduceCtorEq, inset, Int.max_comm] <;> (first | rfl | omega | exact decide_eq_decide.2 (by omega) | exact decide_eq_false (by omega) | exact decide_eq_true (by omega) | (symm; first | exact decide_eq_false (by omega) | exact decide_eq_true (by omega)) | (rw [Bool.eq_iff_iff]; simp only [Bool.not_eq_true', Bool.not_eq_false', Bool.and_eq_true, Bool.or_eq_true, decide_eq_true_eq, decide_eq_false_iff_not, reduceCtorEq, true_iff, iff_true, false_iff, iff_false]; omega))))
theorem c_insetS (r : Rect) (px py : Int) (hr : RectSm r) (h3 : 0 ≤ r.w) (h4 : 0 ≤ r.h) (hx : 0 ≤ px ∧ px ≤ 10) (hy : 0 ≤ py ∧ py ≤ 10) :
    ACon Try.prog 125 [vRect r, .d (.int .i64 px), .d (.int .i64 py)] [] (Is (vRect (inset r px py))) := by
  have ⟨h1, h2, g3, g4⟩ := hr
  have e1 := tdiv2 h3
  have e2 := tdiv2 h4
  refine ACon.introW tok (nt := 36) Try.func125 rfl rfl rfl (by kernel_rfl) rfl ?_
  repeat' (first | ((with_reducible apply xsim); (first | ((with_reducible apply xo); exact rfl) | ((with_reducible apply xst); exact rfl) | with_reducible apply xend | ((with_reducible apply xalloc); exact rfl; simp only [backV, backVs, backVs_mapd, backId, backO, List.map_cons, List.map_nil, List.getElem?_nil, List.length_cons, List.length_nil, Nat.reduceAdd, Nat.reduceSub, List.cons_append, List.nil_append, List.append_nil]) | ((with_reducible apply xbox); exact rfl; simp only [backV, backVs, backVs_mapd, backId, backO, List.map_cons, List.map_nil, List.getElem?_nil, List.length_cons, List.length_nil, Nat.reduceAdd, Nat.reduceSub, List.cons_append, List.nil_append, List.append_nil]))) | ((with_reducible apply xaw); (first | ((with_reducible apply xstepS); refine AW.step tok rfl ?_) | with_reducible (first | refine AW.seq ?_ | refine AW.block ?_ | refine AW.skip ?_ | refine AW.ret ?_ | refine AW.exit ?_))) | with_reducible (first | exact trivial | refine And.intro ?_ ?_ | exact rfl | exact Nat.le_refl _) | exact Eq.refl true | (refine inR_i64.mpr ?_; first | omega | (simp only [List.length_map]; omega)) | omega)
  all_goals (refine xfinIs (by first | exact .inl rfl | exact .inr rfl) rfl (by repeat' (first | exact trivial | exact rfl | refine And.intro ?_ ?_)) rfl ?_ rfl; first | (simp -implicitDefEqProofs only [go_sem, Int.reduceEq, Int.reduceLT, Int.reduceLE, Nat.reduceAdd, Nat.reduceSub, Nat.reduceMul, Nat.reduceEqDiff, Nat.reduceLeDiff, Nat.reducePow, ↓reduceIte, reduceCtorEq, inset] <;> (first | rfl | omega | exact decide_eq_decide.2 (by omega) | exact decide_eq_false (by omega) | exact decide_eq_true (by omega) | (symm; first | exact decide_eq_false (by omega) | exact decide_eq_true (by omega)) | (rw [Bool.eq_iff_iff]; simp only [Bool.not_eq_true', Bool.not_eq_false', Bool.and_eq_true, Bool.or_eq_true, decide_eq_true_eq, decide_eq_false_iff_not, reduceCtorEq, true_iff, iff_true, false_iff, iff_false]; omega))))

theorem c_eqRect (r : Rect) : ACon Try.prog 100 [vRect r, vRect r] [] (Is (.d (.bool true))) := by
  refine ACon.introW tok (nt := 25) Try.func100 rfl rfl rfl (by kernel_rfl) rfl ?_
  repeat' (first | ((with_reducible apply xsim); (first | ((with_reducible apply xo); exact rfl) | with_reducible apply xend | ((with_reducible apply xbox); exact rfl; simp only [backV, backVs, backVs_mapd, backId, backO, List.map_cons, List.map_nil, List.getElem?_nil, List.length_cons, List.length_nil, Nat.reduceAdd, Nat.reduceSub, List.cons_append, List.nil_append, List.append_nil]))) | ((with_reducible apply xaw); (first | ((with_reducible apply xstepS); refine AW.step tok rfl ?_) | with_reducible (first | refine AW.seq ?_ | refine AW.block ?_ | refine AW.skip ?_ | refine AW.ret ?_ | refine AW.exit ?_) | ((with_reducible apply xcond); exact rfl))) | with_reducible (first | refine xthen ?_ | refine xthen_r ?_ | refine xthen_e ?_ | refine xblock ?_ | refine xblock_r ?_ | refine xblock_e ?_ | refine xblock_n rfl ?_ | refine xround_r ?_ | refine xround_e ?_) | (with_reducible intro hc; (try simp only [decide_eq_true_eq, decide_eq_false_iff_not, Bool.not_true, Bool.not_false, Bool.not_eq_true', Bool.not_eq_false', ne_eq, not_true, reduceCtorEq, ne_eq, not_true_eq_false, decide_false] at hc); (try (exfalso; omega))) | with_reducible (first | exact trivial | refine And.intro ?_ ?_ | exact rfl | exact Nat.le_refl _))
  all_goals (refine xfinIs (by first | exact .inl rfl | exact .inr rfl) rfl (by repeat' (first | exact trivial | exact rfl | refine And.intro ?_ ?_)) rfl ?_ rfl; first | with_reducible exact rfl)
theorem c_eqRectS (xs : List Rect) (hl : xs.length < 2^63) : ACon Try.prog 55 [.d (.lst (xs.map encRect)), .d (.lst (xs.map encRect))] [] (Is (.d (.bool true))) := by
  refine ACon.introW tok (nt := 27) Try.func55 rfl rfl rfl (by kernel_rfl) rfl ?_
  repeat' (first | ((with_reducible apply xsim); (first | ((with_reducible apply xlenM); exact rfl; exact rfl) | ((with_reducible apply xo); exact rfl) | with_reducible apply xend)) | ((with_reducible apply xaw); (first | ((with_reducible apply xstepS); refine AW.step tok rfl ?_) | with_reducible (first | refine AW.seq ?_ | refine AW.block ?_ | refine AW.skip ?_ | refine AW.ret ?_ | refine AW.exit ?_) | ((with_reducible apply xcond); exact rfl))) | with_reducible (first | refine xthen ?_ | refine xthen_r ?_ | refine xthen_e ?_ | refine xblock ?_ | refine xblock_r ?_ | refine xblock_e ?_ | refine xblock_n rfl ?_ | refine xround_r ?_ | refine xround_e ?_) | (with_reducible intro hc; (try simp only [decide_eq_true_eq, decide_eq_false_iff_not, Bool.not_true, Bool.not_false, Bool.not_eq_true', Bool.not_eq_false', ne_eq, not_true, reduceCtorEq, List.length_map] at hc); (try (exfalso; omega))) | with_reducible (first | exact trivial | refine And.intro ?_ ?_ | exact rfl | exact Nat.le_refl _))
  refine AW.loop (S := fun k : Nat => ⟨[(0, .d (.lst (xs.map encRect))), (1, .d (.lst (xs.map encRect))), (5, .d (.int .i64 k))], [], 27, 0⟩)
    (Pre := fun k => k ≤ xs.length) (μ := fun k => xs.length - k) 0 (Nat.zero_le _) ?_ ?_
  · (refine xwk (π := []) (by decide) rfl ?_ ?_; (first | exact trivial); repeat' (first | exact renE_n | ((with_reducible apply renE_c); exact rfl; focus (first | (simp -implicitDefEqProofs only [go_sem, Int.reduceEq, Int.reduceLT, Int.reduceLE, Nat.reduceAdd, Nat.reduceSub, Nat.reduceMul, Nat.reduceEqDiff, Nat.reduceLeDiff, Nat.reducePow, ↓reduceIte, reduceCtorEq]; done)))))
  · intro k hk
    by_cases hlt : k < xs.length
    · have hrow := at_map (f := encRect) hlt
      repeat' (first | ((with_reducible apply xsim); (first | ((with_reducible apply xlenM); exact rfl; exact rfl) | ((with_reducible apply xo); exact rfl) | with_reducible apply xend | ((with_reducible apply xidxL); exact rfl; exact rfl; exact rfl; (first | exact hrow); omega; first | exact rfl | simp only [hsz]))) | ((with_reducible apply xaw); (first | ((with_reducible apply xstepS); refine AW.step tok rfl ?_) | ((with_reducible apply xstep); refine AW.region tok rfl ?_) | with_reducible (first | refine AW.seq ?_ | refine AW.block ?_ | refine AW.skip ?_ | refine AW.ret ?_ | refine AW.exit ?_) | ((with_reducible apply xcond); exact rfl) | ((with_reducible apply xdraw (id := 6)); refine AW.draw (id := 6) (.q 0 (.q 1 (.q 2 (.q 3 (.q 4 (.q 5 (.q 6 (.q 7 (.q 8 (.q 9 (.fin))))))))))) tok (by kernel_rfl) rfl (by kernel_rfl) ?_))) | ((with_reducible apply xarun); (first | ((with_reducible apply xrun_q); exact rfl; exact rfl; exact rfl) | ((with_reducible apply xrun_c); exact rfl; exact rfl; exact rfl; exact rfl; exact rfl; exact rfl; exact c_eqRect xs[k]; exact rfl) | with_reducible apply xrun_f)) | with_reducible (first | refine xthen ?_ | refine xthen_r ?_ | refine xthen_e ?_ | refine xblock ?_ | refine xblock_r ?_ | refine xblock_e ?_ | refine xblock_n rfl ?_ | refine xround_r ?_ | refine xround_e ?_) | (with_reducible intro hc; (try simp only [decide_eq_true_eq, decide_eq_false_iff_not, Bool.not_true, Bool.not_false, Bool.not_eq_true', Bool.not_eq_false', ne_eq, not_true, reduceCtorEq, List.length_map] at hc); (try (exfalso; omega))) | with_reducible (first | exact trivial | refine And.intro ?_ ?_ | exact rfl | exact Nat.le_refl _) | exact Eq.refl true | (refine inR_i64.mpr ?_; first | omega | (simp only [List.length_map, List.length_map]; omega)))
      refine round_end (k+1) hlt (by omega) (by (refine xwk (π := []) (by decide) rfl ?_ ?_; (first | exact trivial); repeat' (first | exact renE_n | ((with_reducible apply renE_c); exact rfl; focus (first | (simp -implicitDefEqProofs only [go_sem, Int.reduceEq, Int.reduceLT, Int.reduceLE, Nat.reduceAdd, Nat.reduceSub, Nat.reduceMul, Nat.reduceEqDiff, Nat.reduceLeDiff, Nat.reducePow, ↓reduceIte, reduceCtorEq]; done))))))
    · repeat' (first | ((with_reducible apply xsim); (first | ((with_reducible apply xlenM); exact rfl; exact rfl) | ((with_reducible apply xo); exact rfl) | with_reducible apply xend)) | ((with_reducible apply xaw); (first | ((with_reducible apply xstepS); refine AW.step tok rfl ?_) | with_reducible (first | refine AW.seq ?_ | refine AW.block ?_ | refine AW.skip ?_ | refine AW.ret ?_ | refine AW.exit ?_) | ((with_reducible apply xcond); exact rfl))) | with_reducible (first | refine xthen ?_ | refine xthen_r ?_ | refine xthen_e ?_ | refine xblock ?_ | refine xblock_r ?_ | refine xblock_e ?_ | refine xblock_n rfl ?_ | refine xround_r ?_ | refine xround_e ?_) | (with_reducible intro hc; (try simp only [decide_eq_true_eq, decide_eq_false_iff_not, Bool.not_true, Bool.not_false, Bool.not_eq_true', Bool.not_eq_false', ne_eq, not_true, reduceCtorEq, List.length_map] at hc); (try (exfalso; omega))) | with_reducible (first | exact trivial | refine And.intro ?_ ?_ | exact rfl | exact Nat.le_refl _))
      (refine xfinIs (by first | exact .inl rfl | exact .inr rfl) rfl (by repeat' (first | exact trivial | exact rfl | refine And.intro ?_ ?_)) rfl ?_ rfl; first | with_reducible exact rfl)

end Go.Proofs.Ytemihgpcodcjgaa
